/- What is proved here: what There and StateAt return on plain data, of the program and of the reference (no statement of the seat). -/
import Derived.Test.YtnkaadiofjoacaaB5
namespace Go.Proofs.Ytnkaadiofjoacaa
open Go Go.RowKit
set_option linter.unusedVariables false
set_option linter.unusedSimpArgs false

def F.quietF (l : List Beat) (q : Int) : Int := bif F.checkB l != 0 then F.checkB l else bif F.out q 1 1000000 then 1 else 0

def F.sesF (l : List Beat) (q : Int) (x : ByteArray) : Int := bif F.quietF l q != 0 then F.quietF l q else bif !F.isName x then 5 else 0

def F.thereS (x : ByteArray) (acc : List Span) (s : Stay) : List Span := bif s.beat.session.toList == x.toList then F.addSpan acc s.sp else acc

def F.thereA (x : ByteArray) (acc : List Span) (ss : List Stay) : List Span := ss.foldl (F.thereS x) acc

def F.there (l : List Beat) (q : Int) (x : ByteArray) : List Span × Int := bif F.sesF l q x != 0 then ([], F.sesF l q x) else (F.thereA x [] (F.stays q l), 0)

def F.stP (x : ByteArray) (t : Int) (s : Stay) (_ : List Stay) : Bool := (s.beat.session.toList == x.toList) && F.le s.sp.fr t && F.lt t s.sp.to

def F.stFind (x : ByteArray) (t : Int) (ss : List Stay) : Option Stay := M.findS (F.stP x t) ss

def F.stateAt (l : List Beat) (q : Int) (x : ByteArray) (t : Int) : Beat × Bool × Int :=
  bif F.sesF l q x != 0 then (⟨⟨#[]⟩, 0, 0, 0, 0⟩, false, F.sesF l q x) else bif F.out t 0 2000000000000 then (⟨⟨#[]⟩, 0, 0, 0, 0⟩, false, 1) else
  bif F.found (F.stFind x t (F.stays q l)) then ((F.got (F.stFind x t (F.stays q l)) default).beat, true, 0) else (⟨⟨#[]⟩, 0, 0, 0, 0⟩, false, 0)

/-- By the reference. -/
def F.lastsB (q : Int) (b : Beat) (r : List Beat) : Int := bif b.state == 5 then b.time else F.endB q b r

def F.lastsAt (l : List Beat) (i : Nat) (q : Int) : Int := match l.drop i with
  | b :: r => F.lastsB q b r
  | [] => 0

def F.rthS (q : Int) (x : ByteArray) (acc : List Span) (b : Beat) (r : List Beat) : List Span :=
  bif !(b.session.toList == x.toList) || F.le (F.lastsB q b r) b.time then acc else F.addSpan acc ⟨b.time, F.lastsB q b r⟩

def F.rthA (q : Int) (x : ByteArray) (acc : List Span) (l : List Beat) : List Span := M.foldS (F.rthS q x) acc l

def F.rstP (q : Int) (x : ByteArray) (t : Int) (b : Beat) (r : List Beat) : Bool := (b.session.toList == x.toList) && F.le b.time t && F.lt t (F.lastsB q b r)

def F.rstFind (q : Int) (x : ByteArray) (t : Int) (l : List Beat) : Option Beat := M.findS (F.rstP q x t) l

def F.rthere (l : List Beat) (q : Int) (x : ByteArray) : List Span × Int := bif F.sesF l q x != 0 then ([], F.sesF l q x) else (F.rthA q x [] l, 0)

def F.rstateAt (l : List Beat) (q : Int) (x : ByteArray) (t : Int) : Beat × Bool × Int :=
  bif F.sesF l q x != 0 then (⟨⟨#[]⟩, 0, 0, 0, 0⟩, false, F.sesF l q x) else bif F.out t 0 2000000000000 then (⟨⟨#[]⟩, 0, 0, 0, 0⟩, false, 1) else
  bif F.found (F.rstFind q x t l) then (F.got (F.rstFind q x t l) default, true, 0) else (⟨⟨#[]⟩, 0, 0, 0, 0⟩, false, 0)

theorem F.staysA_app (q : Int) : ∀ (l : List Beat) (acc : List Stay), F.staysA q acc l = acc ++ F.staysA q [] l
  | [], acc => by simp [F.staysA, M.foldS]
  | b :: l, acc => by
    show F.staysA q (F.stayS q acc b l) l = acc ++ F.staysA q (F.stayS q [] b l) l
    rw [F.staysA_app q l (F.stayS q acc b l), F.staysA_app q l (F.stayS q [] b l), ← List.append_assoc]
    congr 1
    unfold F.stayS
    cases (b.state != 5) && F.lt b.time (F.endB q b l) <;> simp

theorem F.lt_ge {a b : Int} (h : F.lt a b = true) : F.le b a = false := by simp [F.lt, F.le] at * <;> omega

theorem F.ge_lt {a b : Int} (h : F.lt a b = false) : F.le b a = true := by simp [F.lt, F.le] at * <;> omega

theorem F.there_eq (q : Int) (x : ByteArray) : ∀ (l : List Beat) (acc : List Span), F.thereA x acc (F.staysA q [] l) = F.rthA q x acc l
  | [], acc => rfl
  | b :: l, acc => by
    show F.thereA x acc (F.staysA q (F.stayS q [] b l) l) = F.rthA q x (F.rthS q x acc b l) l
    rw [F.staysA_app, ← F.there_eq q x l]
    simp only [F.thereA, List.foldl_append]
    congr 1
    unfold F.stayS F.rthS F.lastsB
    cases h1 : (b.state == 5)
    · have h2 : (b.state != 5) = true := by simp [bne, h1]
      simp only [h2, Bool.true_and, cond_false]
      cases h3 : F.lt b.time (F.endB q b l)
      · rw [F.ge_lt h3]; simp
      · rw [F.lt_ge h3]
        simp only [cond_true, List.nil_append, List.foldl_cons, List.foldl_nil, F.thereS, Bool.or_false]
        cases (b.session.toList == x.toList) <;> rfl
    · have h2 : (b.state != 5) = false := by simp [bne, h1]
      have h3 : F.le b.time b.time = true := by simp [F.le]
      simp only [h2, Bool.false_and, cond_false, cond_true, h3, Bool.or_true, List.foldl_nil]

theorem F.find_eq (q : Int) (x : ByteArray) (t : Int) : ∀ (l : List Beat), (F.stFind x t (F.staysA q [] l)).map (·.beat) = F.rstFind q x t l
  | [] => rfl
  | b :: l => by
    show (M.findS (F.stP x t) (F.staysA q (F.stayS q [] b l) l)).map (·.beat) = bif F.rstP q x t b l then some b else M.findS (F.rstP q x t) l
    have ih := F.find_eq q x t l
    simp only [F.stFind, F.rstFind] at ih
    rw [F.staysA_app, ← ih]
    unfold F.stayS F.rstP F.lastsB
    cases h1 : (b.state == 5)
    · have h2 : (b.state != 5) = true := by simp [bne, h1]
      simp only [h2, Bool.true_and, cond_false]
      cases h3 : F.lt b.time (F.endB q b l)
      · have h4 : (F.le b.time t && F.lt t (F.endB q b l)) = false := by simp [F.lt, F.le] at * <;> omega
        simp only [cond_false, List.nil_append, Bool.and_assoc, h4, Bool.and_false]
      · simp only [cond_true, List.nil_append, List.singleton_append, M.findS, F.stP]
        cases (b.session.toList == x.toList) && F.le b.time t && F.lt t (F.endB q b l) <;> rfl
    · have h2 : (b.state != 5) = false := by simp [bne, h1]
      have h4 : (F.le b.time t && F.lt t b.time) = false := by simp [F.lt, F.le] <;> omega
      simp only [h2, Bool.false_and, cond_false, cond_true, List.nil_append, Bool.and_assoc, h4, Bool.and_false]

theorem F.there_all (l : List Beat) (q : Int) (x : ByteArray) : F.rthere l q x = F.there l q x := by
  unfold F.rthere F.there F.stays
  rw [F.there_eq]

theorem F.stateAt_all (l : List Beat) (q : Int) (x : ByteArray) (t : Int) : F.rstateAt l q x t = F.stateAt l q x t := by
  unfold F.rstateAt F.stateAt F.stays
  rw [← F.find_eq]
  cases h : F.stFind x t (F.staysA q [] l) <;> simp [F.found, F.got]

theorem F.sesF_len {l : List Beat} {q : Int} {x : ByteArray} (h : (F.sesF l q x != 0) = false) : l.length ≤ 3000 := by
  refine F.checkB_len ?_
  unfold F.sesF F.quietF at h
  cases hc : F.checkB l != 0
  · simpa using hc
  · simp [hc] at h

theorem F.stays_len (q : Int) (l : List Beat) : (F.stays q l).length ≤ l.length := by
  have := F.staysA_len q l []
  simpa [F.stays] using this

namespace M

noncomputable def enQuF : Env := envH ty noG lks [oChb, oOut] [] [] []

theorem enQuF_ok : EnvOK Try.prog enQuF := by
  refine envH_ok lks_ok ty_ok ?_ ?_
  · simp only [List.forall_mem_cons]
    exact ⟨okChb, okOut, by simp⟩
  · simp

theorem evQuF (l : List Beat) (q : Int) : (runF enQuF false Try.f20 [.sl (l.map eBeat), vI q]).val =
  Option.bind (unenc encChb [AV.sl (List.map eBeat l)]) fun (z : List Beat) => bif F.checkB z != (0 : Int) then some ((vI (F.checkB z)), []) else Option.bind (unenc encOut
  [(vI q), (vI (1 : Int)), (vI (1000000 : Int))]) fun (z : Int × Int × Int) => bif F.out z.fst z.snd.fst z.snd.snd then some ((vI (1 : Int)), []) else some ((vI (0 : Int)),
  []) := by kernel_rfl

def encQuF1 (l : List Beat) (q : Int) : List AV := [.sl (l.map eBeat), vI q]

def encQuF (a : (List Beat) × Int) : List AV := encQuF1 a.1 a.2

theorem encQuF_inj (a a' : (List Beat) × Int) (h : encQuF a = encQuF a') : a = a' := by
  simp only [encQuF, encQuF1] at h
  try simp [strs_inj, ints_inj, bools_inj, eL_eIs_inj, eBeats_inj, eBeat_iff, eL_eBeats_inj, eSpans_inj, eSpan_iff, eHoles_inj, eHole_iff, eLevels_inj, eLevel_iff, eFigss_inj, eFigs_iff, eRatios_inj, eRatio_iff, eReps_inj, eRep_iff, eStays_inj, eStay_iff] at h
  grind

theorem unQuF (l : List Beat) (q : Int) : unenc encQuF ([AV.sl (List.map eBeat l), (vI q)]) = some (l, q) := unenc_of encQuF_inj (l, q) rfl

def resQuF1 (l : List Beat) (q : Int) : AV × Heap := (vI (F.quietF l q), [])

def preQuF1 (l : List Beat) (q : Int) : Bool := true

noncomputable def oQuF : Orc := orc 20 true encQuF (fun a => preQuF1 a.1 a.2) fun a => resQuF1 a.1 a.2

theorem okQuF : OrcOK Try.prog noG oQuF := by
  refine mk_ok Try.f20 (keep := false) (by kernel_rfl) (by kernel_rfl) enQuF_ok mixed (no_loops (by kernel_rfl)) (by first | exact fun _ _ => ⟨rfl, rfl⟩ | (intro h; cases h)) ?_
  rintro ⟨l, q⟩ hpre hok
  show (runF enQuF false _ (encQuF1 _ _)).val = some (resQuF1 _ _)
  unfold encQuF1 resQuF1
  rw [evQuF]
  simp only [unChb, unOut, preChb1, preOut1, etaBeat, etaSpan, etaHole, etaLevel, etaFigs, etaRatio, etaRep, etaStay, Option.bind_some, List.length_map, unStrs, unInts, unBools, uneL_eIs, unBeats, uneL_eBeats, unSpans, unHoles, unLevels, unFigss, unRatios, unReps, unStays, F.lt, F.le, cond_true, cond_false, Bool.and_true, Bool.true_and, F.quietF]
  cases F.checkB l != 0 <;> cases F.out q 1 1000000 <;> rfl

noncomputable def enSeF : Env := envH ty noG lks [oQuF, oName] [] [] []

theorem enSeF_ok : EnvOK Try.prog enSeF := by
  refine envH_ok lks_ok ty_ok ?_ ?_
  · simp only [List.forall_mem_cons]
    exact ⟨okQuF, okName, by simp⟩
  · simp

theorem evSeF (l : List Beat) (q : Int) (x : ByteArray) : (runF enSeF false Try.f26 [.sl (l.map eBeat), vI q, vS x]).val =
  Option.bind (unenc encQuF [AV.sl (List.map eBeat l), (vI q)]) fun (z : List Beat × Int) => bif F.quietF z.fst z.snd != (0 : Int) then some ((vI (F.quietF z.fst z.snd)),
  []) else Option.bind (unenc encName [(vS x)]) fun (z : ByteArray) => bif !F.isName z then some ((vI (5 : Int)), []) else some ((vI (0 : Int)), []) := by kernel_rfl

def encSeF1 (l : List Beat) (q : Int) (x : ByteArray) : List AV := [.sl (l.map eBeat), vI q, vS x]

def encSeF (a : (List Beat) × Int × ByteArray) : List AV := encSeF1 a.1 a.2.1 a.2.2

theorem encSeF_inj (a a' : (List Beat) × Int × ByteArray) (h : encSeF a = encSeF a') : a = a' := by
  simp only [encSeF, encSeF1] at h
  try simp [strs_inj, ints_inj, bools_inj, eL_eIs_inj, eBeats_inj, eBeat_iff, eL_eBeats_inj, eSpans_inj, eSpan_iff, eHoles_inj, eHole_iff, eLevels_inj, eLevel_iff, eFigss_inj, eFigs_iff, eRatios_inj, eRatio_iff, eReps_inj, eRep_iff, eStays_inj, eStay_iff] at h
  grind

theorem unSeF (l : List Beat) (q : Int) (x : ByteArray) : unenc encSeF ([AV.sl (List.map eBeat l), (vI q), (vS x)]) = some (l, q, x) := unenc_of encSeF_inj (l, q, x) rfl

def resSeF1 (l : List Beat) (q : Int) (x : ByteArray) : AV × Heap := (vI (F.sesF l q x), [])

def preSeF1 (l : List Beat) (q : Int) (x : ByteArray) : Bool := true

noncomputable def oSeF : Orc := orc 26 true encSeF (fun a => preSeF1 a.1 a.2.1 a.2.2) fun a => resSeF1 a.1 a.2.1 a.2.2

theorem okSeF : OrcOK Try.prog noG oSeF := by
  refine mk_ok Try.f26 (keep := false) (by kernel_rfl) (by kernel_rfl) enSeF_ok mixed (no_loops (by kernel_rfl)) (by first | exact fun _ _ => ⟨rfl, rfl⟩ | (intro h; cases h)) ?_
  rintro ⟨l, q, x⟩ hpre hok
  show (runF enSeF false _ (encSeF1 _ _ _)).val = some (resSeF1 _ _ _)
  unfold encSeF1 resSeF1
  rw [evSeF]
  simp only [unQuF, unName, preQuF1, preName1, etaBeat, etaSpan, etaHole, etaLevel, etaFigs, etaRatio, etaRep, etaStay, Option.bind_some, List.length_map, unStrs, unInts, unBools, uneL_eIs, unBeats, uneL_eBeats, unSpans, unHoles, unLevels, unFigss, unRatios, unReps, unStays, F.lt, F.le, cond_true, cond_false, Bool.and_true, Bool.true_and, F.sesF]
  cases F.quietF l q != 0 <;> cases F.isName x <;> rfl

def stThr (ss : List Stay) (x : ByteArray) (acc : List Span) (k : Nat) : St := ⟨[(23, vI k), (22, vI ss.length), (21, .sl (ss.map eStay)), (9, .own 9), (2, vS x)], [(9, ⟨false, 24, 2, acc.map eSpan⟩)]⟩

def stThr1 (a : (List Stay) × ByteArray × (List Span) × Nat) : St := stThr a.1 a.2.1 a.2.2.1 a.2.2.2

theorem stThr_inj (a a' : (List Stay) × ByteArray × (List Span) × Nat) (h : stThr1 a = stThr1 a') : a = a' := by
  simp only [stThr1, stThr] at h
  try simp [strs_inj, ints_inj, bools_inj, eL_eIs_inj, eBeats_inj, eBeat_iff, eL_eBeats_inj, eSpans_inj, eSpan_iff, eHoles_inj, eHole_iff, eLevels_inj, eLevel_iff, eFigss_inj, eFigs_iff, eRatios_inj, eRatio_iff, eReps_inj, eRep_iff, eStays_inj, eStay_iff] at h
  grind

theorem unstThr (ss : List Stay) (x : ByteArray) (acc : List Span) (k : Nat) : unenc stThr1 (St.mk [(23, (vI (↑k : Int))), (22, (vI (↑(List.length ss) : Int))), (21, AV.sl (List.map eStay ss)), (9, .own 9), (2, (vS x))] [(9, Blk.mk false 24 2 (List.map eSpan
  acc))]) = some (ss, x, acc, k) := unenc_of stThr_inj (ss, x, acc, k) rfl

theorem unstThr0 (ss : List Stay) (x : ByteArray)  : unenc stThr1 (St.mk [(23, (vI (0 : Int))), (22, (vI (↑(List.length ss) : Int))), (21, AV.sl (List.map eStay ss)), (9, .own 9), (2, (vS x))] [(9, Blk.mk false 24 2 [])]) = some (ss, x, [], 0) := unenc_of stThr_inj (ss, x, [], 0) rfl

def outThr (ss : List Stay) (x : ByteArray) (acc : List Span) (k : Nat) : T (Ex × St) := .ret (.exit 0, ⟨[(9, .own 9)], [(9, ⟨false, 24, 2, (F.thereA x acc (ss.drop k)).map eSpan⟩)]⟩)

noncomputable def prlThr (ss : List Stay) (x : ByteArray) (acc : List Span) (k : Nat) : Bool := decide (ss.length ≤ 3000) && decide (k ≤ ss.length) && decide (acc.length ≤ k)

noncomputable def lpThr : Nat × (St → T (Ex × St)) := (6, lpo [23, 22, 21, 9, 2] [9] stThr1 (fun a => prlThr a.1 a.2.1 a.2.2.1 a.2.2.2) fun a => outThr a.1 a.2.1 a.2.2.1 a.2.2.2)

def encThr1 (l : List Beat) (q : Int) (x : ByteArray) : List AV := [.sl (l.map eBeat), vI q, vS x]

def encThr (a : (List Beat) × Int × ByteArray) : List AV := encThr1 a.1 a.2.1 a.2.2

theorem encThr_inj (a a' : (List Beat) × Int × ByteArray) (h : encThr a = encThr a') : a = a' := by
  simp only [encThr, encThr1] at h
  try simp [strs_inj, ints_inj, bools_inj, eL_eIs_inj, eBeats_inj, eBeat_iff, eL_eBeats_inj, eSpans_inj, eSpan_iff, eHoles_inj, eHole_iff, eLevels_inj, eLevel_iff, eFigss_inj, eFigs_iff, eRatios_inj, eRatio_iff, eReps_inj, eRep_iff, eStays_inj, eStay_iff] at h
  grind

theorem unThr (l : List Beat) (q : Int) (x : ByteArray) : unenc encThr ([AV.sl (List.map eBeat l), (vI q), (vS x)]) = some (l, q, x) := unenc_of encThr_inj (l, q, x) rfl

def resThr1 (l : List Beat) (q : Int) (x : ByteArray) : AV × Heap := (.tup [.sl ((F.there l q x).1.map eSpan), vI (F.there l q x).2], [])

def preThr1 (l : List Beat) (q : Int) (x : ByteArray) : Bool := true

def stSta (ss : List Stay) (x : ByteArray) (t : Int) (k : Nat) : St := ⟨[(29, vI k), (28, vI ss.length), (27, .sl (ss.map eStay)), (8, .ptr 8 0 0), (3, vI t), (2, vS x)], [(8, ⟨true, 0, 0, [[vS ⟨#[]⟩, vI 0, vI 0, vI 0, vI 0]]⟩)]⟩

def stSta1 (a : (List Stay) × ByteArray × Int × Nat) : St := stSta a.1 a.2.1 a.2.2.1 a.2.2.2

theorem stSta_inj (a a' : (List Stay) × ByteArray × Int × Nat) (h : stSta1 a = stSta1 a') : a = a' := by
  simp only [stSta1, stSta] at h
  try simp [strs_inj, ints_inj, bools_inj, eL_eIs_inj, eBeats_inj, eBeat_iff, eL_eBeats_inj, eSpans_inj, eSpan_iff, eHoles_inj, eHole_iff, eLevels_inj, eLevel_iff, eFigss_inj, eFigs_iff, eRatios_inj, eRatio_iff, eReps_inj, eRep_iff, eStays_inj, eStay_iff] at h
  grind

theorem unstSta (ss : List Stay) (x : ByteArray) (t : Int) (k : Nat) : unenc stSta1 (St.mk [(29, (vI (↑k : Int))), (28, (vI (↑(List.length ss) : Int))), (27, AV.sl (List.map eStay ss)), (8, .ptr 8 0 0), (3, (vI t)), (2, (vS x))] [(8, Blk.mk true 0 0 [[(vS
  (ByteArray.mk (Array.mk []))), (vI (0 : Int)), (vI (0 : Int)), (vI (0 : Int)), (vI (0 : Int))]])]) = some (ss, x, t, k) := unenc_of stSta_inj (ss, x, t, k) rfl

theorem unstSta0 (ss : List Stay) (x : ByteArray) (t : Int)  : unenc stSta1 (St.mk [(29, (vI (0 : Int))), (28, (vI (↑(List.length ss) : Int))), (27, AV.sl (List.map eStay ss)), (8, .ptr 8 0 0), (3, (vI t)), (2, (vS x))] [(8, Blk.mk true 0 0 [[(vS
  (ByteArray.mk (Array.mk []))), (vI (0 : Int)), (vI (0 : Int)), (vI (0 : Int)), (vI (0 : Int))]])]) = some (ss, x, t, 0) := unenc_of stSta_inj (ss, x, t, 0) rfl

def outSta (ss : List Stay) (x : ByteArray) (t : Int) (k : Nat) : T (Ex × St) := .ifB (F.found (F.stFind x t (ss.drop k))) (.ret (.ret, ⟨[(10, vI 0), (9, vB true), (8, .ptr 8 0 0)], [(8, ⟨true, 0, 0, [eBeat (F.got (F.stFind x t (ss.drop k)) default).beat]⟩)]⟩)) (.ret (.exit 0, ⟨[(8, .ptr 8 0 0)], [(8, ⟨true, 0, 0, [[vS ⟨#[]⟩, vI 0, vI 0, vI 0, vI 0]]⟩)]⟩))

noncomputable def prlSta (ss : List Stay) (x : ByteArray) (t : Int) (k : Nat) : Bool := decide (ss.length ≤ 3000) && decide (k ≤ ss.length)

noncomputable def lpSta : Nat × (St → T (Ex × St)) := (7, lpo [29, 28, 27, 8, 3, 2] [8] stSta1 (fun a => prlSta a.1 a.2.1 a.2.2.1 a.2.2.2) fun a => outSta a.1 a.2.1 a.2.2.1 a.2.2.2)

noncomputable def enSta : Env := envH ty noG lks [oSeF, oOut, oSty] [] [] [lpSta]

theorem enSta_ok : EnvOK Try.prog enSta := by
  refine envH_ok lks_ok ty_ok ?_ ?_
  · simp only [List.forall_mem_cons]
    exact ⟨okSeF, okOut, okSty, by simp⟩
  · simp

theorem evStaL (ss : List Stay) (x : ByteArray) (t : Int) (k : Nat) : ((exec enSta (loopN Try.f11 0) (stSta ss x t k)).bind (lessX ([29, 28, 27, 8, 3, 2], [8]) ([8], [8]) ([10, 9, 8], [8]))).val =
  bif decide ((↑k : Int) < (↑(List.length ss) : Int)) then Option.bind (unenc (List.map eStay) (List.map eStay ss)) fun (z : List Stay) => bif decide (k < List.length z)
  then bif bif bif ByteArray.toList (List.getD z k (Stay.mk (Beat.mk (ByteArray.mk (Array.mk [])) (0 : Int) (0 : Int) (0 : Int) (0 : Int)) (Span.mk (0 : Int) (0 :
  Int)))).beat.session == ByteArray.toList x then decide ((List.getD z k (Stay.mk (Beat.mk (ByteArray.mk (Array.mk [])) (0 : Int) (0 : Int) (0 : Int) (0 : Int)) (Span.mk (0
  : Int) (0 : Int)))).sp.fr ≤ t) else false then decide (t < (List.getD z k (Stay.mk (Beat.mk (ByteArray.mk (Array.mk [])) (0 : Int) (0 : Int) (0 : Int) (0 : Int)) (Span.mk
  (0 : Int) (0 : Int)))).sp.to) else false then some (Ex.ret, St.mk [(10, (vI (0 : Int))), (9, (vB true)), (8, .ptr 8 0 0)] [(8, Blk.mk true 0 0 [[(vS (List.getD z k
  (Stay.mk (Beat.mk (ByteArray.mk (Array.mk [])) (0 : Int) (0 : Int) (0 : Int) (0 : Int)) (Span.mk (0 : Int) (0 : Int)))).beat.session), (vI (List.getD z k (Stay.mk (Beat.mk
  (ByteArray.mk (Array.mk [])) (0 : Int) (0 : Int) (0 : Int) (0 : Int)) (Span.mk (0 : Int) (0 : Int)))).beat.no), (vI (List.getD z k (Stay.mk (Beat.mk (ByteArray.mk
  (Array.mk [])) (0 : Int) (0 : Int) (0 : Int) (0 : Int)) (Span.mk (0 : Int) (0 : Int)))).beat.time), (vI (List.getD z k (Stay.mk (Beat.mk (ByteArray.mk (Array.mk [])) (0 :
  Int) (0 : Int) (0 : Int) (0 : Int)) (Span.mk (0 : Int) (0 : Int)))).beat.state), (vI (List.getD z k (Stay.mk (Beat.mk (ByteArray.mk (Array.mk [])) (0 : Int) (0 : Int) (0 :
  Int) (0 : Int)) (Span.mk (0 : Int) (0 : Int)))).beat.rate)]])]) else some (Ex.normal, St.mk [(29, (vI (IntKind.wrap IntKind.i64 ((↑k : Int) + (1 : Int))))), (28, (vI
  (↑(List.length ss) : Int))), (27, AV.sl (List.map eStay ss)), (8, .ptr 8 0 0), (3, (vI t)), (2, (vS x))] [(8, Blk.mk true 0 0 [[(vS (ByteArray.mk (Array.mk []))), (vI (0 :
  Int)), (vI (0 : Int)), (vI (0 : Int)), (vI (0 : Int))]])]) else none else some (Ex.exit (0 : Nat), St.mk [(8, .ptr 8 0 0)] [(8, Blk.mk true 0 0 [[(vS (ByteArray.mk
  (Array.mk []))), (vI (0 : Int)), (vI (0 : Int)), (vI (0 : Int)), (vI (0 : Int))]])]) := by kernel_rfl

theorem lpSta_ok (ss : List Stay) (x : ByteArray) (t : Int) (k : Nat) (hp : prlSta ss x t k = true) : ∀ ex s', (outSta ss x t k).val = some (ex, s') → LoopOK enSta (loopN Try.f11 0) (stSta ss x t k) ex s' := by
  simp only [prlSta, Bool.and_eq_true, decide_eq_true_eq] at hp
  obtain ⟨h1, h2⟩ := hp
  refine loop_findS (xs := ss) (st := stSta ss x t) (p := F.stP x t) (o := fun s => (.ret, ⟨[(10, vI 0), (9, vB true), (8, .ptr 8 0 0)], [(8, ⟨true, 0, 0, [eBeat s.beat]⟩)]⟩)) (n := ([29, 28, 27, 8, 3, 2], [8])) (e := ([8], [8])) (r := ([10, 9, 8], [8])) ?_ ⟨by simp, rfl⟩ (fun _ => ⟨by simp, rfl⟩) (fun _ => rfl) ?_ default k h2
  · rw [evStaL]; simp
  · intro k y hy
    have hlt := lt_at hy
    rw [evStaL]
    simp only [unSeF, unOut, unSty, preSeF1, preOut1, preSty1, unstSta, unstSta0, prlSta, outSta, etaBeat, etaSpan, etaHole, etaLevel, etaFigs, etaRatio, etaRep, etaStay, Option.bind_some, List.length_map, unStrs, unInts, unBools, uneL_eIs, unBeats, uneL_eBeats, unSpans, unHoles, unLevels, unFigss, unRatios, unReps, unStays, F.lt, F.le, cond_true, cond_false, Bool.and_true, Bool.true_and, cast_lt hlt, decide_eq_true hlt, next_at hlt (by omega : ss.length ≤ 9223372036854775807), getD_at hy, stSta, F.stP, eBeat]
    cases (y.beat.session.toList == x.toList) <;> cases decide (y.sp.fr ≤ t) <;> cases decide (t < y.sp.to) <;> rfl

theorem evSta (l : List Beat) (q : Int) (x : ByteArray) (t : Int) : (runF enSta false Try.f11 [.sl (l.map eBeat), vI q, vS x, vI t]).val =
  Option.bind (unenc encSeF [AV.sl (List.map eBeat l), (vI q), (vS x)]) fun (z : List Beat × Int × ByteArray) => bif F.sesF z.fst z.snd.fst z.snd.snd != (0 : Int) then some
  (AV.tup [AV.agg [(vS (ByteArray.mk (Array.mk []))), (vI (0 : Int)), (vI (0 : Int)), (vI (0 : Int)), (vI (0 : Int))], (vB false), (vI (F.sesF z.fst z.snd.fst z.snd.snd))],
  []) else Option.bind (unenc encOut [(vI t), (vI (0 : Int)), (vI (2000000000000 : Int))]) fun (z : Int × Int × Int) => bif F.out z.fst z.snd.fst z.snd.snd then some (AV.tup
  [AV.agg [(vS (ByteArray.mk (Array.mk []))), (vI (0 : Int)), (vI (0 : Int)), (vI (0 : Int)), (vI (0 : Int))], (vB false), (vI (1 : Int))], []) else Option.bind (unenc
  encSty [AV.sl (List.map eBeat l), (vI q)]) fun (z : List Beat × Int) => bif decide (List.length z.fst ≤ (3000 : Nat)) then Option.bind (unenc stSta1 (St.mk [(29, (vI (0 :
  Int))), (28, (vI (↑(List.length (List.map eStay (F.stays z.snd z.fst))) : Int))), (27, AV.sl (List.map eStay (F.stays z.snd z.fst))), (8, .ptr 8 0 0), (3, (vI t)), (2, (vS
  x))] [(8, Blk.mk true 0 0 [[(vS (ByteArray.mk (Array.mk []))), (vI (0 : Int)), (vI (0 : Int)), (vI (0 : Int)), (vI (0 : Int))]])])) fun (z : List Stay × ByteArray × Int ×
  Nat) => bif decide (List.length z.fst ≤ (3000 : Nat)) && decide (z.snd.snd.snd ≤ List.length z.fst) && true then bif F.found (F.stFind z.snd.fst z.snd.snd.fst (List.drop
  z.snd.snd.snd z.fst)) then some (AV.tup [AV.agg [(vS (F.got (F.stFind z.snd.fst z.snd.snd.fst (List.drop z.snd.snd.snd z.fst)) (Stay.mk (Beat.mk (ByteArray.mk (Array.mk
  [])) (0 : Int) (0 : Int) (0 : Int) (0 : Int)) (Span.mk (0 : Int) (0 : Int)))).beat.session), (vI (F.got (F.stFind z.snd.fst z.snd.snd.fst (List.drop z.snd.snd.snd z.fst))
  (Stay.mk (Beat.mk (ByteArray.mk (Array.mk [])) (0 : Int) (0 : Int) (0 : Int) (0 : Int)) (Span.mk (0 : Int) (0 : Int)))).beat.no), (vI (F.got (F.stFind z.snd.fst
  z.snd.snd.fst (List.drop z.snd.snd.snd z.fst)) (Stay.mk (Beat.mk (ByteArray.mk (Array.mk [])) (0 : Int) (0 : Int) (0 : Int) (0 : Int)) (Span.mk (0 : Int) (0 :
  Int)))).beat.time), (vI (F.got (F.stFind z.snd.fst z.snd.snd.fst (List.drop z.snd.snd.snd z.fst)) (Stay.mk (Beat.mk (ByteArray.mk (Array.mk [])) (0 : Int) (0 : Int) (0 :
  Int) (0 : Int)) (Span.mk (0 : Int) (0 : Int)))).beat.state), (vI (F.got (F.stFind z.snd.fst z.snd.snd.fst (List.drop z.snd.snd.snd z.fst)) (Stay.mk (Beat.mk (ByteArray.mk
  (Array.mk [])) (0 : Int) (0 : Int) (0 : Int) (0 : Int)) (Span.mk (0 : Int) (0 : Int)))).beat.rate)], (vB true), (vI (0 : Int))], []) else some (AV.tup [AV.agg [(vS
  (ByteArray.mk (Array.mk []))), (vI (0 : Int)), (vI (0 : Int)), (vI (0 : Int)), (vI (0 : Int))], (vB false), (vI (0 : Int))], []) else none else none := by kernel_rfl

def encSta1 (l : List Beat) (q : Int) (x : ByteArray) (t : Int) : List AV := [.sl (l.map eBeat), vI q, vS x, vI t]

def encSta (a : (List Beat) × Int × ByteArray × Int) : List AV := encSta1 a.1 a.2.1 a.2.2.1 a.2.2.2

theorem encSta_inj (a a' : (List Beat) × Int × ByteArray × Int) (h : encSta a = encSta a') : a = a' := by
  simp only [encSta, encSta1] at h
  try simp [strs_inj, ints_inj, bools_inj, eL_eIs_inj, eBeats_inj, eBeat_iff, eL_eBeats_inj, eSpans_inj, eSpan_iff, eHoles_inj, eHole_iff, eLevels_inj, eLevel_iff, eFigss_inj, eFigs_iff, eRatios_inj, eRatio_iff, eReps_inj, eRep_iff, eStays_inj, eStay_iff] at h
  grind

theorem unSta (l : List Beat) (q : Int) (x : ByteArray) (t : Int) : unenc encSta ([AV.sl (List.map eBeat l), (vI q), (vS x), (vI t)]) = some (l, q, x, t) := unenc_of encSta_inj (l, q, x, t) rfl

def resSta1 (l : List Beat) (q : Int) (x : ByteArray) (t : Int) : AV × Heap := (.tup [.agg (eBeat (F.stateAt l q x t).1), vB (F.stateAt l q x t).2.1, vI (F.stateAt l q x t).2.2], [])

def preSta1 (l : List Beat) (q : Int) (x : ByteArray) (t : Int) : Bool := true

noncomputable def oSta : Orc := orc 11 true encSta (fun a => preSta1 a.1 a.2.1 a.2.2.1 a.2.2.2) fun a => resSta1 a.1 a.2.1 a.2.2.1 a.2.2.2

theorem okSta : OrcOK Try.prog noG oSta := by
  refine mk_ok Try.f11 (keep := false) (by kernel_rfl) (by kernel_rfl) enSta_ok mixed (one_loop (x0 := loopN Try.f11 0) (by kernel_rfl) (lpo_ok ?_)) (by first | exact fun _ _ => ⟨rfl, rfl⟩ | (intro h; cases h)) ?_
  · rintro ⟨ss, x, t, k⟩ hp
    exact lpSta_ok ss x t k hp
  rintro ⟨l, q, x, t⟩ hpre hok
  show (runF enSta false _ (encSta1 _ _ _ _)).val = some (resSta1 _ _ _ _)
  unfold encSta1 resSta1
  rw [evSta]
  simp only [unSeF, unOut, unSty, preSeF1, preOut1, preSty1, unstSta, unstSta0, prlSta, outSta, etaBeat, etaSpan, etaHole, etaLevel, etaFigs, etaRatio, etaRep, etaStay, Option.bind_some, List.length_map, unStrs, unInts, unBools, uneL_eIs, unBeats, uneL_eBeats, unSpans, unHoles, unLevels, unFigss, unRatios, unReps, unStays, F.lt, F.le, cond_true, cond_false, Bool.and_true, Bool.true_and, List.drop_zero, Nat.zero_le, decide_true, F.stateAt]
  cases h : F.sesF l q x != 0
  · have hl := F.sesF_len h
    have hl1 : decide (l.length ≤ 3000) = true := decide_eq_true hl
    have hl2 : decide ((F.stays q l).length ≤ 3000) = true := decide_eq_true (by have := F.stays_len q l; omega)
    simp only [hl1, hl2, cond_false, cond_true]
    cases F.out t 0 2000000000000
    · cases F.found (F.stFind x t (F.stays q l)) <;> rfl
    · rfl
  · rfl

theorem evLst (l : List Beat) (i : Nat) (q : Int) : (runF en0 false Try.f52 [.sl (l.map eBeat), vI i, vI q]).val =
  Option.bind (unenc (List.map eBeat) (List.map eBeat l)) fun (z : List Beat) => bif decide (i < List.length z) then bif (List.getD z i (Beat.mk (ByteArray.mk (Array.mk []))
  (0 : Int) (0 : Int) (0 : Int) (0 : Int))).state == (5 : Int) then Option.bind (unenc (List.map eBeat) (List.map eBeat l)) fun (z : List Beat) => bif decide (i <
  List.length z) then some ((vI (List.getD z i (Beat.mk (ByteArray.mk (Array.mk [])) (0 : Int) (0 : Int) (0 : Int) (0 : Int))).time), []) else none else Option.bind (unenc
  (List.map eBeat) (List.map eBeat l)) fun (z : List Beat) => bif decide (i < List.length z) then bif decide (IntKind.wrap IntKind.i64 ((↑i : Int) + (1 : Int)) <
  (↑(List.length (List.map eBeat l)) : Int)) then bif decide (IntKind.wrap IntKind.i64 ((↑i : Int) + (1 : Int)) < (↑(List.length (List.map eBeat l)) : Int)) then Option.bind
  (idx (IntKind.wrap IntKind.i64 ((↑i : Int) + (1 : Int)))) fun (z_1 : Nat) => Option.bind (unenc (List.map eBeat) (List.map eBeat l)) fun (z_2 : List Beat) => bif decide
  (z_1 < List.length z_2) then bif decide (IntKind.wrap IntKind.i64 ((↑i : Int) + (1 : Int)) < (↑(List.length (List.map eBeat l)) : Int)) then Option.bind (unenc (List.map
  eBeat) (List.map eBeat l)) fun (z_3 : List Beat) => bif decide (i < List.length z_3) then bif bif decide (IntKind.wrap IntKind.i64 ((↑i : Int) + (1 : Int)) <
  (↑(List.length (List.map eBeat l)) : Int)) then ByteArray.toList (List.getD z_2 z_1 (Beat.mk (ByteArray.mk (Array.mk [])) (0 : Int) (0 : Int) (0 : Int) (0 : Int))).session
  == ByteArray.toList (List.getD z_3 i (Beat.mk (ByteArray.mk (Array.mk [])) (0 : Int) (0 : Int) (0 : Int) (0 : Int))).session else false then Option.bind (idx (IntKind.wrap
  IntKind.i64 ((↑i : Int) + (1 : Int)))) fun (z_4 : Nat) => Option.bind (unenc (List.map eBeat) (List.map eBeat l)) fun (z_5 : List Beat) => bif decide (z_4 < List.length
  z_5) then some ((vI (min (IntKind.wrap IntKind.i64 ((List.getD z i (Beat.mk (ByteArray.mk (Array.mk [])) (0 : Int) (0 : Int) (0 : Int) (0 : Int))).time + q)) (List.getD
  z_5 z_4 (Beat.mk (ByteArray.mk (Array.mk [])) (0 : Int) (0 : Int) (0 : Int) (0 : Int))).time)), []) else none else some ((vI (IntKind.wrap IntKind.i64 ((List.getD z i
  (Beat.mk (ByteArray.mk (Array.mk [])) (0 : Int) (0 : Int) (0 : Int) (0 : Int))).time + q))), []) else none else bif decide (IntKind.wrap IntKind.i64 ((↑i : Int) + (1 :
  Int)) < (↑(List.length (List.map eBeat l)) : Int)) then none else bif decide (IntKind.wrap IntKind.i64 ((↑i : Int) + (1 : Int)) < (↑(List.length (List.map eBeat l)) :
  Int)) then none else bif decide (IntKind.wrap IntKind.i64 ((↑i : Int) + (1 : Int)) < (↑(List.length (List.map eBeat l)) : Int)) then none else some ((vI (IntKind.wrap
  IntKind.i64 ((List.getD z i (Beat.mk (ByteArray.mk (Array.mk [])) (0 : Int) (0 : Int) (0 : Int) (0 : Int))).time + q))), []) else none else bif decide (IntKind.wrap
  IntKind.i64 ((↑i : Int) + (1 : Int)) < (↑(List.length (List.map eBeat l)) : Int)) then none else bif decide (IntKind.wrap IntKind.i64 ((↑i : Int) + (1 : Int)) <
  (↑(List.length (List.map eBeat l)) : Int)) then none else bif decide (IntKind.wrap IntKind.i64 ((↑i : Int) + (1 : Int)) < (↑(List.length (List.map eBeat l)) : Int)) then
  Option.bind (unenc (List.map eBeat) (List.map eBeat l)) fun (z_1 : List Beat) => bif decide (i < List.length z_1) then bif decide (IntKind.wrap IntKind.i64 ((↑i : Int) +
  (1 : Int)) < (↑(List.length (List.map eBeat l)) : Int)) then none else some ((vI (IntKind.wrap IntKind.i64 ((List.getD z i (Beat.mk (ByteArray.mk (Array.mk [])) (0 : Int)
  (0 : Int) (0 : Int) (0 : Int))).time + q))), []) else none else bif decide (IntKind.wrap IntKind.i64 ((↑i : Int) + (1 : Int)) < (↑(List.length (List.map eBeat l)) : Int))
  then none else bif decide (IntKind.wrap IntKind.i64 ((↑i : Int) + (1 : Int)) < (↑(List.length (List.map eBeat l)) : Int)) then none else bif decide (IntKind.wrap
  IntKind.i64 ((↑i : Int) + (1 : Int)) < (↑(List.length (List.map eBeat l)) : Int)) then none else some ((vI (IntKind.wrap IntKind.i64 ((List.getD z i (Beat.mk (ByteArray.mk
  (Array.mk [])) (0 : Int) (0 : Int) (0 : Int) (0 : Int))).time + q))), []) else bif decide (IntKind.wrap IntKind.i64 ((↑i : Int) + (1 : Int)) < (↑(List.length (List.map
  eBeat l)) : Int)) then none else bif decide (IntKind.wrap IntKind.i64 ((↑i : Int) + (1 : Int)) < (↑(List.length (List.map eBeat l)) : Int)) then none else bif decide
  (IntKind.wrap IntKind.i64 ((↑i : Int) + (1 : Int)) < (↑(List.length (List.map eBeat l)) : Int)) then none else bif decide (IntKind.wrap IntKind.i64 ((↑i : Int) + (1 :
  Int)) < (↑(List.length (List.map eBeat l)) : Int)) then Option.bind (unenc (List.map eBeat) (List.map eBeat l)) fun (z_1 : List Beat) => bif decide (i < List.length z_1)
  then bif decide (IntKind.wrap IntKind.i64 ((↑i : Int) + (1 : Int)) < (↑(List.length (List.map eBeat l)) : Int)) then none else some ((vI (IntKind.wrap IntKind.i64
  ((List.getD z i (Beat.mk (ByteArray.mk (Array.mk [])) (0 : Int) (0 : Int) (0 : Int) (0 : Int))).time + q))), []) else none else bif decide (IntKind.wrap IntKind.i64 ((↑i :
  Int) + (1 : Int)) < (↑(List.length (List.map eBeat l)) : Int)) then none else bif decide (IntKind.wrap IntKind.i64 ((↑i : Int) + (1 : Int)) < (↑(List.length (List.map
  eBeat l)) : Int)) then none else bif decide (IntKind.wrap IntKind.i64 ((↑i : Int) + (1 : Int)) < (↑(List.length (List.map eBeat l)) : Int)) then none else some ((vI
  (IntKind.wrap IntKind.i64 ((List.getD z i (Beat.mk (ByteArray.mk (Array.mk [])) (0 : Int) (0 : Int) (0 : Int) (0 : Int))).time + q))), []) else none else none := by kernel_rfl

def encLst1 (l : List Beat) (i : Nat) (q : Int) : List AV := [.sl (l.map eBeat), vI i, vI q]

def encLst (a : (List Beat) × Nat × Int) : List AV := encLst1 a.1 a.2.1 a.2.2

theorem encLst_inj (a a' : (List Beat) × Nat × Int) (h : encLst a = encLst a') : a = a' := by
  simp only [encLst, encLst1] at h
  try simp [strs_inj, ints_inj, bools_inj, eL_eIs_inj, eBeats_inj, eBeat_iff, eL_eBeats_inj, eSpans_inj, eSpan_iff, eHoles_inj, eHole_iff, eLevels_inj, eLevel_iff, eFigss_inj, eFigs_iff, eRatios_inj, eRatio_iff, eReps_inj, eRep_iff, eStays_inj, eStay_iff] at h
  grind

theorem unLst (l : List Beat) (i : Nat) (q : Int) : unenc encLst ([AV.sl (List.map eBeat l), (vI (↑i : Int)), (vI q)]) = some (l, i, q) := unenc_of encLst_inj (l, i, q) rfl

def resLst1 (l : List Beat) (i : Nat) (q : Int) : AV × Heap := (vI (F.lastsAt l i q), [])

def preLst1 (l : List Beat) (i : Nat) (q : Int) : Bool := decide (i < l.length) && decide (l.length ≤ 3000)

noncomputable def oLst : Orc := orc 52 true encLst (fun a => preLst1 a.1 a.2.1 a.2.2) fun a => resLst1 a.1 a.2.1 a.2.2

theorem okLst : OrcOK Try.prog noG oLst := by
  refine mk_ok Try.f52 (keep := false) (by kernel_rfl) (by kernel_rfl) en0_ok mixed (no_loops (by kernel_rfl)) (by first | exact fun _ _ => ⟨rfl, rfl⟩ | (intro h; cases h)) ?_
  rintro ⟨l, i, q⟩ hpre hok
  show (runF en0 false _ (encLst1 _ _ _)).val = some (resLst1 _ _ _)
  unfold encLst1 resLst1
  rw [evLst]
  simp only [preLst1, Bool.and_eq_true, decide_eq_true_eq] at hpre
  obtain ⟨hlt, hl⟩ := hpre
  have hy : l[i]? = some l[i] := List.getElem?_eq_getElem hlt
  generalize l[i] = y at hy
  have hn1 : IntKind.i64.wrap ((i : Int) + 1) = ((i + 1 : Nat) : Int) := next_at hlt (by omega)
  by_cases hlast : i + 1 < l.length
  · have hn : l[i + 1]? = some l[i + 1] := List.getElem?_eq_getElem hlast
    generalize l[i + 1] = z at hn
    have e : F.lastsAt l i q = F.lastsB q y (z :: l.drop (i + 2)) := by unfold F.lastsAt; rw [drop_at hy, drop_at hn]
    rw [e]
    simp only [etaBeat, etaSpan, etaHole, etaLevel, etaFigs, etaRatio, etaRep, etaStay, Option.bind_some, List.length_map, unStrs, unInts, unBools, uneL_eIs, unBeats, uneL_eBeats, unSpans, unHoles, unLevels, unFigss, unRatios, unReps, unStays, F.lt, F.le, cond_true, cond_false, Bool.and_true, Bool.true_and, decide_eq_true hlt, cast_lt hlast, decide_eq_true hlast, hn1, getD_at hy, getD_at hn, idx, F.lastsB, F.endB]
    cases (y.state == 5) <;> cases (z.session.toList == y.session.toList) <;> rfl
  · have hd : l.drop (i + 1) = [] := List.drop_eq_nil_of_le (by omega)
    have hno : decide (((i + 1 : Nat) : Int) < (l.length : Int)) = false := decide_eq_false (by omega)
    have e : F.lastsAt l i q = F.lastsB q y [] := by unfold F.lastsAt; rw [drop_at hy, hd]
    rw [e]
    simp only [etaBeat, etaSpan, etaHole, etaLevel, etaFigs, etaRatio, etaRep, etaStay, Option.bind_some, List.length_map, unStrs, unInts, unBools, uneL_eIs, unBeats, uneL_eBeats, unSpans, unHoles, unLevels, unFigss, unRatios, unReps, unStays, F.lt, F.le, cond_true, cond_false, Bool.and_true, Bool.true_and, decide_eq_true hlt, hno, hn1, getD_at hy, F.lastsB, F.endB]
    cases (y.state == 5) <;> rfl

def stRth (l : List Beat) (q : Int) (x : ByteArray) (acc : List Span) (k : Nat) : St := ⟨[(13, vI k), (12, vI l.length), (11, .sl (l.map eBeat)), (7, .own 7), (2, vS x), (1, vI q), (0, .sl (l.map eBeat))], [(7, ⟨false, 24, 2, acc.map eSpan⟩)]⟩

def stRth1 (a : (List Beat) × Int × ByteArray × (List Span) × Nat) : St := stRth a.1 a.2.1 a.2.2.1 a.2.2.2.1 a.2.2.2.2

theorem stRth_inj (a a' : (List Beat) × Int × ByteArray × (List Span) × Nat) (h : stRth1 a = stRth1 a') : a = a' := by
  simp only [stRth1, stRth] at h
  try simp [strs_inj, ints_inj, bools_inj, eL_eIs_inj, eBeats_inj, eBeat_iff, eL_eBeats_inj, eSpans_inj, eSpan_iff, eHoles_inj, eHole_iff, eLevels_inj, eLevel_iff, eFigss_inj, eFigs_iff, eRatios_inj, eRatio_iff, eReps_inj, eRep_iff, eStays_inj, eStay_iff] at h
  grind

theorem unstRth (l : List Beat) (q : Int) (x : ByteArray) (acc : List Span) (k : Nat) : unenc stRth1 (St.mk [(13, (vI (↑k : Int))), (12, (vI (↑(List.length l) : Int))), (11, AV.sl (List.map eBeat l)), (7, .own 7), (2, (vS x)), (1, (vI q)), (0, AV.sl (List.map eBeat l))]
  [(7, Blk.mk false 24 2 (List.map eSpan acc))]) = some (l, q, x, acc, k) := unenc_of stRth_inj (l, q, x, acc, k) rfl

theorem unstRth0 (l : List Beat) (q : Int) (x : ByteArray)  : unenc stRth1 (St.mk [(13, (vI (0 : Int))), (12, (vI (↑(List.length l) : Int))), (11, AV.sl (List.map eBeat l)), (7, .own 7), (2, (vS x)), (1, (vI q)), (0, AV.sl (List.map eBeat l))]
  [(7, Blk.mk false 24 2 [])]) = some (l, q, x, [], 0) := unenc_of stRth_inj (l, q, x, [], 0) rfl

def outRth (l : List Beat) (q : Int) (x : ByteArray) (acc : List Span) (k : Nat) : T (Ex × St) := .ret (.exit 0, ⟨[(7, .own 7)], [(7, ⟨false, 24, 2, (F.rthA q x acc (l.drop k)).map eSpan⟩)]⟩)

noncomputable def prlRth (l : List Beat) (q : Int) (x : ByteArray) (acc : List Span) (k : Nat) : Bool := decide (l.length ≤ 3000) && decide (k ≤ l.length) && decide (acc.length ≤ k)

noncomputable def lpRth : Nat × (St → T (Ex × St)) := (3, lpo [13, 12, 11, 7, 2, 1, 0] [7] stRth1 (fun a => prlRth a.1 a.2.1 a.2.2.1 a.2.2.2.1 a.2.2.2.2) fun a => outRth a.1 a.2.1 a.2.2.1 a.2.2.2.1 a.2.2.2.2)

noncomputable def enRth : Env := envH ty noG lks [oLst] [] [] [lpRth]

theorem enRth_ok : EnvOK Try.prog enRth := by
  refine envH_ok lks_ok ty_ok ?_ ?_
  · simp only [List.forall_mem_cons]
    exact ⟨okLst, by simp⟩
  · simp

theorem rthS_len (q : Int) (x : ByteArray) (acc : List Span) (b : Beat) (r : List Beat) : (F.rthS q x acc b r).length ≤ acc.length + 1 := by
  unfold F.rthS
  cases !(b.session.toList == x.toList) || F.le (F.lastsB q b r) b.time
  · exact F.addSpan_len _ _
  · simp

theorem evRthL (l : List Beat) (q : Int) (x : ByteArray) (acc : List Span) (k : Nat) : ((exec enRth (loopN Try.f42 0) (stRth l q x acc k)).bind (lessX ([13, 12, 11, 7, 2, 1, 0], [7]) ([7], [7]) ([], []))).val =
  bif decide ((↑k : Int) < (↑(List.length l) : Int)) then Option.bind (unenc (List.map eBeat) (List.map eBeat l)) fun (z : List Beat) => bif decide (k < List.length z) then
  Option.bind (unenc encLst [AV.sl (List.map eBeat l), (vI (↑k : Int)), (vI q)]) fun (z_1 : List Beat × Nat × Int) => bif decide (z_1.snd.fst < List.length z_1.fst) &&
  decide (List.length z_1.fst ≤ (3000 : Nat)) then bif bif !ByteArray.toList (List.getD z k (Beat.mk (ByteArray.mk (Array.mk [])) (0 : Int) (0 : Int) (0 : Int) (0 :
  Int))).session == ByteArray.toList x then true else decide (F.lastsAt z_1.fst z_1.snd.fst z_1.snd.snd ≤ (List.getD z k (Beat.mk (ByteArray.mk (Array.mk [])) (0 : Int) (0 :
  Int) (0 : Int) (0 : Int))).time) then some (Ex.normal, St.mk [(13, (vI (IntKind.wrap IntKind.i64 ((↑k : Int) + (1 : Int))))), (12, (vI (↑(List.length l) : Int))), (11,
  AV.sl (List.map eBeat l)), (7, .own 7), (2, (vS x)), (1, (vI q)), (0, AV.sl (List.map eBeat l))] [(7, Blk.mk false 24 2 (List.map eSpan acc))]) else bif decide ((0 : Int)
  < (↑(List.length (List.map eSpan acc)) : Int)) then Option.bind (idx (IntKind.wrap IntKind.i64 ((↑(List.length (List.map eSpan acc)) : Int) - (1 : Int)))) fun (z_2 : Nat)
  => bif decide (z_2 < List.length (Blk.mk false 24 2 (List.map eSpan acc)).rows) then bif decide ((0 : Int) < (↑(List.length (List.map eSpan acc)) : Int)) then Option.bind
  (unenc (List.map eSpan) (List.map eSpan acc)) fun (z_3 : List Span) => bif decide (z_2 < List.length z_3) then bif bif decide ((0 : Int) < (↑(List.length (List.map eSpan
  acc)) : Int)) then (List.getD z_3 z_2 (Span.mk (0 : Int) (0 : Int))).to == (List.getD z k (Beat.mk (ByteArray.mk (Array.mk [])) (0 : Int) (0 : Int) (0 : Int) (0 :
  Int))).time else false then Option.bind (idx (IntKind.wrap IntKind.i64 ((↑(List.length (List.map eSpan acc)) : Int) - (1 : Int)))) fun (z : Nat) => bif decide (z <
  List.length (Blk.mk false 24 2 (List.map eSpan acc)).rows) then Option.bind (unenc (List.map eSpan) (List.map eSpan acc)) fun (z_4 : List Span) => bif decide (z <
  List.length z_4) then some (Ex.normal, St.mk [(13, (vI (IntKind.wrap IntKind.i64 ((↑k : Int) + (1 : Int))))), (12, (vI (↑(List.length l) : Int))), (11, AV.sl (List.map
  eBeat l)), (7, .own 7), (2, (vS x)), (1, (vI q)), (0, AV.sl (List.map eBeat l))] [(7, Blk.mk false 24 2 (List.set (List.map eSpan acc) z [(vI (List.getD z_4 z (Span.mk (0
  : Int) (0 : Int))).fr), (vI (F.lastsAt z_1.fst z_1.snd.fst z_1.snd.snd))]))]) else none else none else bif Nat.ble ((List.length (List.map eSpan acc) + (1 : Nat)) * (16 :
  Nat)) (140737488355328 : Nat) && true then some (Ex.normal, St.mk [(13, (vI (IntKind.wrap IntKind.i64 ((↑k : Int) + (1 : Int))))), (12, (vI (↑(List.length l) : Int))),
  (11, AV.sl (List.map eBeat l)), (7, .own 7), (2, (vS x)), (1, (vI q)), (0, AV.sl (List.map eBeat l))] [(7, Blk.mk false 24 2 (List.map eSpan acc ++ [[(vI (List.getD z k
  (Beat.mk (ByteArray.mk (Array.mk [])) (0 : Int) (0 : Int) (0 : Int) (0 : Int))).time), (vI (F.lastsAt z_1.fst z_1.snd.fst z_1.snd.snd))]]))]) else none else none else bif
  decide ((0 : Int) < (↑(List.length (List.map eSpan acc)) : Int)) then none else bif Nat.ble ((List.length (List.map eSpan acc) + (1 : Nat)) * (16 : Nat)) (140737488355328
  : Nat) && true then some (Ex.normal, St.mk [(13, (vI (IntKind.wrap IntKind.i64 ((↑k : Int) + (1 : Int))))), (12, (vI (↑(List.length l) : Int))), (11, AV.sl (List.map eBeat
  l)), (7, .own 7), (2, (vS x)), (1, (vI q)), (0, AV.sl (List.map eBeat l))] [(7, Blk.mk false 24 2 (List.map eSpan acc ++ [[(vI (List.getD z k (Beat.mk (ByteArray.mk
  (Array.mk [])) (0 : Int) (0 : Int) (0 : Int) (0 : Int))).time), (vI (F.lastsAt z_1.fst z_1.snd.fst z_1.snd.snd))]]))]) else none else none else bif decide ((0 : Int) <
  (↑(List.length (List.map eSpan acc)) : Int)) then none else bif decide ((0 : Int) < (↑(List.length (List.map eSpan acc)) : Int)) then none else bif decide ((0 : Int) <
  (↑(List.length (List.map eSpan acc)) : Int)) then none else bif Nat.ble ((List.length (List.map eSpan acc) + (1 : Nat)) * (16 : Nat)) (140737488355328 : Nat) && true then
  some (Ex.normal, St.mk [(13, (vI (IntKind.wrap IntKind.i64 ((↑k : Int) + (1 : Int))))), (12, (vI (↑(List.length l) : Int))), (11, AV.sl (List.map eBeat l)), (7, .own 7),
  (2, (vS x)), (1, (vI q)), (0, AV.sl (List.map eBeat l))] [(7, Blk.mk false 24 2 (List.map eSpan acc ++ [[(vI (List.getD z k (Beat.mk (ByteArray.mk (Array.mk [])) (0 : Int)
  (0 : Int) (0 : Int) (0 : Int))).time), (vI (F.lastsAt z_1.fst z_1.snd.fst z_1.snd.snd))]]))]) else none else none else none else some (Ex.exit (0 : Nat), St.mk [(7, .own
  7)] [(7, Blk.mk false 24 2 (List.map eSpan acc))]) := by kernel_rfl

theorem lpRth_ok (l : List Beat) (q : Int) (x : ByteArray) (acc : List Span) (k : Nat) (hp : prlRth l q x acc k = true) : ∀ ex s', (outRth l q x acc k).val = some (ex, s') → LoopOK enRth (loopN Try.f42 0) (stRth l q x acc k) ex s' := by
  simp only [prlRth, Bool.and_eq_true, decide_eq_true_eq] at hp
  obtain ⟨⟨h1, h2⟩, h3⟩ := hp
  refine loop_foldS (xs := l) (st := fun a k => stRth l q x a k) (f := F.rthS q x) (fin := fun a => (.exit 0, ⟨[(7, .own 7)], [(7, ⟨false, 24, 2, a.map eSpan⟩)]⟩)) (I := fun a k => a.length ≤ k) (n := ([13, 12, 11, 7, 2, 1, 0], [7])) (e := ([7], [7])) (r := ([], [])) ?_ (fun _ => ⟨by simp, rfl⟩) (fun _ _ => rfl) ?_ acc k h2 h3
  · intro acc _
    rw [evRthL]; simp
  · intro acc k y hy hI
    have hlt := lt_at hy
    have hroom : Nat.ble ((acc.length + 1) * 16) 140737488355328 = true := ble_t (by omega)
    have hl3 : decide (l.length ≤ 3000) = true := decide_eq_true h1
    have hla : F.lastsAt l k q = F.lastsB q y (l.drop (k + 1)) := by unfold F.lastsAt; rw [drop_at hy]
    refine ⟨?_, by have := rthS_len q x acc y (l.drop (k + 1)); omega⟩
    rw [evRthL]
    rcases Nat.eq_zero_or_pos acc.length with h0 | h0
    · have hz : decide ((0 : Int) < (acc.length : Int)) = false := decide_eq_false (by omega)
      simp only [unLst, preLst1, unstRth, unstRth0, prlRth, outRth, etaBeat, etaSpan, etaHole, etaLevel, etaFigs, etaRatio, etaRep, etaStay, Option.bind_some, List.length_map, unStrs, unInts, unBools, uneL_eIs, unBeats, uneL_eBeats, unSpans, unHoles, unLevels, unFigss, unRatios, unReps, unStays, F.lt, F.le, cond_true, cond_false, Bool.and_true, Bool.true_and, cast_lt hlt, decide_eq_true hlt, hl3, next_at hlt (by omega : l.length ≤ 9223372036854775807), getD_at hy, stRth, F.rthS, hla, hz, hroom, F.addSpan, appWSpans, Bool.false_and, bne]
      generalize F.lastsB q y (l.drop (k + 1)) = e
      cases (y.session.toList == x.toList) <;> simp only [Bool.not_true, Bool.not_false, cond_true, cond_false, Bool.true_or, Bool.false_or]
      by_cases h : e ≤ y.time <;> simp only [h, decide_true, decide_false, cond_true, cond_false]
    · have hz : decide ((0 : Int) < (acc.length : Int)) = true := decide_eq_true (by omega)
      have hj : idx (IntKind.i64.wrap ((acc.length : Int) - 1)) = some (acc.length - 1) := by
        have := idx_sub (j := acc.length - 1) (by omega)
        rw [show acc.length - 1 + 1 = acc.length by omega] at this
        exact this
      have hlt' : decide (acc.length - 1 < acc.length) = true := decide_eq_true (by omega)
      simp only [unLst, preLst1, unstRth, unstRth0, prlRth, outRth, etaBeat, etaSpan, etaHole, etaLevel, etaFigs, etaRatio, etaRep, etaStay, Option.bind_some, List.length_map, unStrs, unInts, unBools, uneL_eIs, unBeats, uneL_eBeats, unSpans, unHoles, unLevels, unFigss, unRatios, unReps, unStays, F.lt, F.le, cond_true, cond_false, Bool.and_true, Bool.true_and, cast_lt hlt, decide_eq_true hlt, hl3, next_at hlt (by omega : l.length ≤ 9223372036854775807), getD_at hy, stRth, F.rthS, hla, hz, hj, hlt', hroom, F.addSpan, appWSpans, setWSpans, Bool.true_and, bne]
      generalize F.lastsB q y (l.drop (k + 1)) = e
      cases (y.session.toList == x.toList) <;> simp only [Bool.not_true, Bool.not_false, cond_true, cond_false, Bool.true_or, Bool.false_or]
      by_cases h : e ≤ y.time <;> simp only [h, decide_true, decide_false, cond_true, cond_false]
      cases ((acc.getD (acc.length - 1) ⟨0, 0⟩).to == y.time) <;> rfl

theorem evRth (l : List Beat) (q : Int) (x : ByteArray) : (runF enRth false Try.f42 [.sl (l.map eBeat), vI q, vS x]).val =
  Option.bind (unenc stRth1 (St.mk [(13, (vI (0 : Int))), (12, (vI (↑(List.length (List.map eBeat l)) : Int))), (11, AV.sl (List.map eBeat l)), (7, .own 7), (2, (vS x)), (1,
  (vI q)), (0, AV.sl (List.map eBeat l))] [(7, Blk.mk false 24 2 [])])) fun (z : List Beat × Int × ByteArray × List Span × Nat) => bif decide (List.length z.fst ≤ (3000 :
  Nat)) && decide (z.snd.snd.snd.snd ≤ List.length z.fst) && decide (List.length z.snd.snd.snd.fst ≤ z.snd.snd.snd.snd) && true then some (AV.sl (List.map eSpan (F.rthA
  z.snd.fst z.snd.snd.fst z.snd.snd.snd.fst (List.drop z.snd.snd.snd.snd z.fst))), []) else none := by kernel_rfl

def encRth1 (l : List Beat) (q : Int) (x : ByteArray) : List AV := [.sl (l.map eBeat), vI q, vS x]

def encRth (a : (List Beat) × Int × ByteArray) : List AV := encRth1 a.1 a.2.1 a.2.2

theorem encRth_inj (a a' : (List Beat) × Int × ByteArray) (h : encRth a = encRth a') : a = a' := by
  simp only [encRth, encRth1] at h
  try simp [strs_inj, ints_inj, bools_inj, eL_eIs_inj, eBeats_inj, eBeat_iff, eL_eBeats_inj, eSpans_inj, eSpan_iff, eHoles_inj, eHole_iff, eLevels_inj, eLevel_iff, eFigss_inj, eFigs_iff, eRatios_inj, eRatio_iff, eReps_inj, eRep_iff, eStays_inj, eStay_iff] at h
  grind

theorem unRth (l : List Beat) (q : Int) (x : ByteArray) : unenc encRth ([AV.sl (List.map eBeat l), (vI q), (vS x)]) = some (l, q, x) := unenc_of encRth_inj (l, q, x) rfl

def resRth1 (l : List Beat) (q : Int) (x : ByteArray) : AV × Heap := (.sl ((F.rthA q x [] l).map eSpan), [])

def preRth1 (l : List Beat) (q : Int) (x : ByteArray) : Bool := decide (l.length ≤ 3000)

noncomputable def oRth : Orc := orc 42 false encRth (fun a => preRth1 a.1 a.2.1 a.2.2) fun a => resRth1 a.1 a.2.1 a.2.2

theorem okRth : OrcOK Try.prog noG oRth := by
  refine mk_ok Try.f42 (keep := false) (by kernel_rfl) (by kernel_rfl) enRth_ok mixed (one_loop (x0 := loopN Try.f42 0) (by kernel_rfl) (lpo_ok ?_)) (by first | exact fun _ _ => ⟨rfl, rfl⟩ | (intro h; cases h)) ?_
  · rintro ⟨l, q, x, acc, k⟩ hp
    exact lpRth_ok l q x acc k hp
  rintro ⟨l, q, x⟩ hpre hok
  show (runF enRth false _ (encRth1 _ _ _)).val = some (resRth1 _ _ _)
  unfold encRth1 resRth1
  rw [evRth]
  simp only [preRth1, decide_eq_true_eq] at hpre
  simp only [unLst, preLst1, unstRth, unstRth0, prlRth, outRth, etaBeat, etaSpan, etaHole, etaLevel, etaFigs, etaRatio, etaRep, etaStay, Option.bind_some, List.length_map, unStrs, unInts, unBools, uneL_eIs, unBeats, uneL_eBeats, unSpans, unHoles, unLevels, unFigss, unRatios, unReps, unStays, F.lt, F.le, cond_true, cond_false, Bool.and_true, Bool.true_and, List.drop_zero, Nat.zero_le, decide_true, List.length_nil, List.map_nil, hpre]

noncomputable def enRqF : Env := envH ty noG lks [oRhb, oRng] [] [] []

theorem enRqF_ok : EnvOK Try.prog enRqF := by
  refine envH_ok lks_ok ty_ok ?_ ?_
  · simp only [List.forall_mem_cons]
    exact ⟨okRhb, okRng, by simp⟩
  · simp

theorem evRqF (l : List Beat) (q : Int) : (runF enRqF false Try.f29 [.sl (l.map eBeat), vI q]).val =
  Option.bind (unenc encRhb [AV.sl (List.map eBeat l)]) fun (z : List Beat) => bif F.checkB z != (0 : Int) then some ((vI (F.checkB z)), []) else Option.bind (unenc encRng
  [(vI q), (vI (1 : Int)), (vI (1000000 : Int))]) fun (z : Int × Int × Int) => bif !!F.out z.fst z.snd.fst z.snd.snd then some ((vI (1 : Int)), []) else some ((vI (0 :
  Int)), []) := by kernel_rfl

def encRqF1 (l : List Beat) (q : Int) : List AV := [.sl (l.map eBeat), vI q]

def encRqF (a : (List Beat) × Int) : List AV := encRqF1 a.1 a.2

theorem encRqF_inj (a a' : (List Beat) × Int) (h : encRqF a = encRqF a') : a = a' := by
  simp only [encRqF, encRqF1] at h
  try simp [strs_inj, ints_inj, bools_inj, eL_eIs_inj, eBeats_inj, eBeat_iff, eL_eBeats_inj, eSpans_inj, eSpan_iff, eHoles_inj, eHole_iff, eLevels_inj, eLevel_iff, eFigss_inj, eFigs_iff, eRatios_inj, eRatio_iff, eReps_inj, eRep_iff, eStays_inj, eStay_iff] at h
  grind

theorem unRqF (l : List Beat) (q : Int) : unenc encRqF ([AV.sl (List.map eBeat l), (vI q)]) = some (l, q) := unenc_of encRqF_inj (l, q) rfl

def resRqF1 (l : List Beat) (q : Int) : AV × Heap := (vI (F.quietF l q), [])

def preRqF1 (l : List Beat) (q : Int) : Bool := true

noncomputable def oRqF : Orc := orc 29 true encRqF (fun a => preRqF1 a.1 a.2) fun a => resRqF1 a.1 a.2

theorem okRqF : OrcOK Try.prog noG oRqF := by
  refine mk_ok Try.f29 (keep := false) (by kernel_rfl) (by kernel_rfl) enRqF_ok mixed (no_loops (by kernel_rfl)) (by first | exact fun _ _ => ⟨rfl, rfl⟩ | (intro h; cases h)) ?_
  rintro ⟨l, q⟩ hpre hok
  show (runF enRqF false _ (encRqF1 _ _)).val = some (resRqF1 _ _)
  unfold encRqF1 resRqF1
  rw [evRqF]
  simp only [unRhb, unRng, preRhb1, preRng1, etaBeat, etaSpan, etaHole, etaLevel, etaFigs, etaRatio, etaRep, etaStay, Option.bind_some, List.length_map, unStrs, unInts, unBools, uneL_eIs, unBeats, uneL_eBeats, unSpans, unHoles, unLevels, unFigss, unRatios, unReps, unStays, F.lt, F.le, cond_true, cond_false, Bool.and_true, Bool.true_and, F.quietF, Bool.not_not]
  cases F.checkB l != 0 <;> cases F.out q 1 1000000 <;> rfl

noncomputable def enRTh : Env := envH ty noG lks [oRqF, oSes, oRth] [] [] []

theorem enRTh_ok : EnvOK Try.prog enRTh := by
  refine envH_ok lks_ok ty_ok ?_ ?_
  · simp only [List.forall_mem_cons]
    exact ⟨okRqF, okSes, okRth, by simp⟩
  · simp

def encRTh1 (l : List Beat) (q : Int) (x : ByteArray) : List AV := [.sl (l.map eBeat), vI q, vS x]

def encRTh (a : (List Beat) × Int × ByteArray) : List AV := encRTh1 a.1 a.2.1 a.2.2

theorem encRTh_inj (a a' : (List Beat) × Int × ByteArray) (h : encRTh a = encRTh a') : a = a' := by
  simp only [encRTh, encRTh1] at h
  try simp [strs_inj, ints_inj, bools_inj, eL_eIs_inj, eBeats_inj, eBeat_iff, eL_eBeats_inj, eSpans_inj, eSpan_iff, eHoles_inj, eHole_iff, eLevels_inj, eLevel_iff, eFigss_inj, eFigs_iff, eRatios_inj, eRatio_iff, eReps_inj, eRep_iff, eStays_inj, eStay_iff] at h
  grind

theorem unRTh (l : List Beat) (q : Int) (x : ByteArray) : unenc encRTh ([AV.sl (List.map eBeat l), (vI q), (vS x)]) = some (l, q, x) := unenc_of encRTh_inj (l, q, x) rfl

def resRTh1 (l : List Beat) (q : Int) (x : ByteArray) : AV × Heap := (.tup [.sl ((F.rthere l q x).1.map eSpan), vI (F.rthere l q x).2], [])

def preRTh1 (l : List Beat) (q : Int) (x : ByteArray) : Bool := true

def stRst (l : List Beat) (q : Int) (x : ByteArray) (t : Int) (k : Nat) : St := ⟨[(31, vI k), (30, vI l.length), (29, .sl (l.map eBeat)), (8, .ptr 8 0 0), (3, vI t), (2, vS x), (1, vI q), (0, .sl (l.map eBeat))], [(8, ⟨true, 0, 0, [[vS ⟨#[]⟩, vI 0, vI 0, vI 0, vI 0]]⟩)]⟩

def stRst1 (a : (List Beat) × Int × ByteArray × Int × Nat) : St := stRst a.1 a.2.1 a.2.2.1 a.2.2.2.1 a.2.2.2.2

theorem stRst_inj (a a' : (List Beat) × Int × ByteArray × Int × Nat) (h : stRst1 a = stRst1 a') : a = a' := by
  simp only [stRst1, stRst] at h
  try simp [strs_inj, ints_inj, bools_inj, eL_eIs_inj, eBeats_inj, eBeat_iff, eL_eBeats_inj, eSpans_inj, eSpan_iff, eHoles_inj, eHole_iff, eLevels_inj, eLevel_iff, eFigss_inj, eFigs_iff, eRatios_inj, eRatio_iff, eReps_inj, eRep_iff, eStays_inj, eStay_iff] at h
  grind

theorem unstRst (l : List Beat) (q : Int) (x : ByteArray) (t : Int) (k : Nat) : unenc stRst1 (St.mk [(31, (vI (↑k : Int))), (30, (vI (↑(List.length l) : Int))), (29, AV.sl (List.map eBeat l)), (8, .ptr 8 0 0), (3, (vI t)), (2, (vS x)), (1, (vI q)), (0, AV.sl
  (List.map eBeat l))] [(8, Blk.mk true 0 0 [[(vS (ByteArray.mk (Array.mk []))), (vI (0 : Int)), (vI (0 : Int)), (vI (0 : Int)), (vI (0 : Int))]])]) = some (l, q, x, t, k) := unenc_of stRst_inj (l, q, x, t, k) rfl

theorem unstRst0 (l : List Beat) (q : Int) (x : ByteArray) (t : Int)  : unenc stRst1 (St.mk [(31, (vI (0 : Int))), (30, (vI (↑(List.length l) : Int))), (29, AV.sl (List.map eBeat l)), (8, .ptr 8 0 0), (3, (vI t)), (2, (vS x)), (1, (vI q)), (0, AV.sl
  (List.map eBeat l))] [(8, Blk.mk true 0 0 [[(vS (ByteArray.mk (Array.mk []))), (vI (0 : Int)), (vI (0 : Int)), (vI (0 : Int)), (vI (0 : Int))]])]) = some (l, q, x, t, 0) := unenc_of stRst_inj (l, q, x, t, 0) rfl

def outRst (l : List Beat) (q : Int) (x : ByteArray) (t : Int) (k : Nat) : T (Ex × St) := .ifB (F.found (F.rstFind q x t (l.drop k))) (.ret (.ret, ⟨[(10, vI 0), (9, vB true), (8, .ptr 8 0 0)], [(8, ⟨true, 0, 0, [eBeat (F.got (F.rstFind q x t (l.drop k)) default)]⟩)]⟩)) (.ret (.exit 0, ⟨[(8, .ptr 8 0 0)], [(8, ⟨true, 0, 0, [[vS ⟨#[]⟩, vI 0, vI 0, vI 0, vI 0]]⟩)]⟩))

noncomputable def prlRst (l : List Beat) (q : Int) (x : ByteArray) (t : Int) (k : Nat) : Bool := decide (l.length ≤ 3000) && decide (k ≤ l.length)

noncomputable def lpRst : Nat × (St → T (Ex × St)) := (9, lpo [31, 30, 29, 8, 3, 2, 1, 0] [8] stRst1 (fun a => prlRst a.1 a.2.1 a.2.2.1 a.2.2.2.1 a.2.2.2.2) fun a => outRst a.1 a.2.1 a.2.2.1 a.2.2.2.1 a.2.2.2.2)

noncomputable def enRst : Env := envH ty noG lks [oRqF, oSes, oRng, oLst] [] [] [lpRst]

theorem enRst_ok : EnvOK Try.prog enRst := by
  refine envH_ok lks_ok ty_ok ?_ ?_
  · simp only [List.forall_mem_cons]
    exact ⟨okRqF, okSes, okRng, okLst, by simp⟩
  · simp

def encRst1 (l : List Beat) (q : Int) (x : ByteArray) (t : Int) : List AV := [.sl (l.map eBeat), vI q, vS x, vI t]

def encRst (a : (List Beat) × Int × ByteArray × Int) : List AV := encRst1 a.1 a.2.1 a.2.2.1 a.2.2.2

theorem encRst_inj (a a' : (List Beat) × Int × ByteArray × Int) (h : encRst a = encRst a') : a = a' := by
  simp only [encRst, encRst1] at h
  try simp [strs_inj, ints_inj, bools_inj, eL_eIs_inj, eBeats_inj, eBeat_iff, eL_eBeats_inj, eSpans_inj, eSpan_iff, eHoles_inj, eHole_iff, eLevels_inj, eLevel_iff, eFigss_inj, eFigs_iff, eRatios_inj, eRatio_iff, eReps_inj, eRep_iff, eStays_inj, eStay_iff] at h
  grind

theorem unRst (l : List Beat) (q : Int) (x : ByteArray) (t : Int) : unenc encRst ([AV.sl (List.map eBeat l), (vI q), (vS x), (vI t)]) = some (l, q, x, t) := unenc_of encRst_inj (l, q, x, t) rfl

def resRst1 (l : List Beat) (q : Int) (x : ByteArray) (t : Int) : AV × Heap := (.tup [.agg (eBeat (F.rstateAt l q x t).1), vB (F.rstateAt l q x t).2.1, vI (F.rstateAt l q x t).2.2], [])

def preRst1 (l : List Beat) (q : Int) (x : ByteArray) (t : Int) : Bool := true

end M
end Go.Proofs.Ytnkaadiofjoacaa
