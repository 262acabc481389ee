/- What is proved here: what the order and the check of beats return on plain data, of the program and of the reference (no statement of the seat). -/
import Derived.Test.YtnkaadiofjoacaaB1
namespace Go.Proofs.Ytnkaadiofjoacaa
open Go Go.RowKit
set_option linter.unusedVariables false
set_option linter.unusedSimpArgs false

/-- The order of beats. -/
def F.border (a b : Beat) : Int := bif F.cmp a.session b.session != 0 then F.cmp a.session b.session else bif decide (a.no < b.no) then -1 else bif decide (b.no < a.no) then 1 else 0

def F.rborder (a b : Beat) : Int := bif F.cmp a.session b.session != 0 then F.cmp a.session b.session else IntKind.i64.wrap (a.no - b.no)

/-- The fault of a beat. -/
def F.beatF1 (b : Beat) : Int :=
  bif !F.isName b.session then 5 else bif F.out b.no 1 3000 || F.out b.time 0 1000000000000 then 1 else bif F.out b.state 1 5 then 4 else
  bif F.out b.rate 0 1000000000 then 1 else bif (b.rate != 0) && (b.state != 2) then 3 else 0

/-- The fault of a beat behind another one. -/
def F.beatF2 (o b : Beat) : Int :=
  bif decide (0 ≤ F.border o b) || (F.seq o.session b.session && decide (b.time < o.time)) then 8 else bif F.seq o.session b.session && (o.state == 5) then 11 else 0

def F.chkB : Option Beat → List Beat → Int
  | _, [] => 0
  | p, b :: l => bif F.beatF1 b != 0 then F.beatF1 b else match p with
    | none => F.chkB (some b) l
    | some o => bif F.beatF2 o b != 0 then F.beatF2 o b else F.chkB (some b) l

def F.checkB (l : List Beat) : Int := bif decide (3000 < l.length) then 2 else F.chkB none l

def F.prev (l : List Beat) : Nat → Option Beat
  | 0 => none
  | k + 1 => l[k]?

def F.prevOK (l : List Beat) (k : Nat) : Bool := match F.prev l k with
  | none => true
  | some o => decide (F.beatF1 o = 0)

theorem F.beatF1_ok {b : Beat} (h : F.beatF1 b = 0) : F.isName b.session = true ∧ (1 ≤ b.no ∧ b.no ≤ 3000) ∧ (0 ≤ b.time ∧ b.time ≤ 1000000000000) ∧ (1 ≤ b.state ∧ b.state ≤ 5) ∧ (0 ≤ b.rate ∧ b.rate ≤ 1000000000) ∧ (b.rate ≠ 0 → b.state = 2) := by
  unfold F.beatF1 at h
  cases h1 : F.isName b.session
  · rw [h1] at h; cases h
  cases h2 : F.out b.no 1 3000
  · cases h3 : F.out b.time 0 1000000000000
    · cases h4 : F.out b.state 1 5
      · cases h5 : F.out b.rate 0 1000000000
        · cases h6 : (b.rate != 0) && (b.state != 2)
          · simp only [F.out, Bool.or_eq_false_iff, decide_eq_false_iff_not] at h2 h3 h4 h5
            refine ⟨rfl, by omega, by omega, by omega, by omega, fun hr => ?_⟩
            simp at h6
            exact h6 hr
          · simp only [h1, h2, h3, h4, h5, h6] at h; cases h
        · simp only [h1, h2, h3, h4, h5] at h; cases h
      · simp only [h1, h2, h3, h4] at h; cases h
    · simp only [h1, h2, h3] at h; cases h
  · simp only [h1, h2] at h; cases h

theorem F.rborder_no {a b : Beat} (ha : F.beatF1 a = 0) (hb : F.out b.no 1 3000 = false) : decide (0 ≤ F.rborder a b) = decide (0 ≤ F.border a b) := by
  have h1 := (F.beatF1_ok ha).2.1
  have h2 : 1 ≤ b.no ∧ b.no ≤ 3000 := by simp [F.out] at hb; omega
  unfold F.rborder F.border
  cases F.cmp a.session b.session != 0
  · rw [M.wrap_id (by omega) (by omega)]
    by_cases h3 : a.no < b.no
    · simp only [h3, decide_true, cond_true, cond_false]; simp; omega
    · by_cases h4 : b.no < a.no
      · simp only [h3, h4, decide_true, decide_false, cond_true, cond_false]; simp; omega
      · simp only [h3, h4, decide_true, decide_false, cond_true, cond_false]; simp; omega
  · rfl

namespace M

noncomputable def enBor : Env := envH ty noG lks [oCmp] [] [] []

theorem enBor_ok : EnvOK Try.prog enBor := by
  refine envH_ok lks_ok ty_ok ?_ ?_
  · simp only [List.forall_mem_cons]
    exact ⟨okCmp, by simp⟩
  · simp

theorem evBor (a : Beat) (b : Beat) : (runF enBor false Try.f56 [.agg (eBeat a), .agg (eBeat b)]).val =
  Option.bind (unenc encCmp [(vS a.session), (vS b.session)]) fun (z : ByteArray × ByteArray) => bif F.cmp z.fst z.snd != (0 : Int) then some ((vI (F.cmp z.fst z.snd)), [])
  else bif decide (a.no < b.no) then some ((vI (-1 : Int)), []) else bif decide (b.no < a.no) then some ((vI (1 : Int)), []) else some ((vI (0 : Int)), []) := by kernel_rfl

def encBor1 (a : Beat) (b : Beat) : List AV := [.agg (eBeat a), .agg (eBeat b)]

def encBor (a : Beat × Beat) : List AV := encBor1 a.1 a.2

theorem encBor_inj (a a' : Beat × Beat) (h : encBor a = encBor a') : a = a' := by
  simp only [encBor, encBor1] at h
  try simp [strs_inj, ints_inj, bools_inj, eL_eIs_inj, eBeats_inj, eBeat_iff, eL_eBeats_inj, eSpans_inj, eSpan_iff, eHoles_inj, eHole_iff, eLevels_inj, eLevel_iff, eFigss_inj, eFigs_iff, eRatios_inj, eRatio_iff, eReps_inj, eRep_iff, eStays_inj, eStay_iff] at h
  grind

theorem unBor (a : Beat) (b : Beat) : unenc encBor ([AV.agg [(vS a.session), (vI a.no), (vI a.time), (vI a.state), (vI a.rate)], AV.agg [(vS b.session), (vI b.no), (vI b.time), (vI b.state), (vI b.rate)]]) = some (a, b) := unenc_of encBor_inj (a, b) rfl

theorem unBorw (a_session : ByteArray) (a_no : Int) (a_time : Int) (a_state : Int) (a_rate : Int) (b_session : ByteArray) (b_no : Int) (b_time : Int) (b_state : Int) (b_rate : Int) : unenc encBor ([AV.agg [(vS a_session), (vI a_no), (vI a_time), (vI a_state), (vI a_rate)], AV.agg [(vS b_session), (vI b_no), (vI b_time), (vI b_state), (vI b_rate)]]) = some ((Beat.mk a_session a_no a_time a_state a_rate), (Beat.mk b_session b_no b_time b_state b_rate)) := unenc_of encBor_inj ((Beat.mk a_session a_no a_time a_state a_rate), (Beat.mk b_session b_no b_time b_state b_rate)) rfl

def resBor1 (a : Beat) (b : Beat) : AV × Heap := (vI (F.border a b), [])

def preBor1 (a : Beat) (b : Beat) : Bool := true

noncomputable def oBor : Orc := orc 56 true encBor (fun a => preBor1 a.1 a.2) fun a => resBor1 a.1 a.2

theorem okBor : OrcOK Try.prog noG oBor := by
  refine mk_ok Try.f56 (keep := false) (by kernel_rfl) (by kernel_rfl) enBor_ok mixed (no_loops (by kernel_rfl)) (by first | exact fun _ _ => ⟨rfl, rfl⟩ | (intro h; cases h)) ?_
  rintro ⟨a, b⟩ hpre hok
  show (runF enBor false _ (encBor1 _ _)).val = some (resBor1 _ _)
  unfold encBor1 resBor1
  rw [evBor]
  simp only [unCmp, preCmp1, etaBeat, etaSpan, etaHole, etaLevel, etaFigs, etaRatio, etaRep, etaStay, Option.bind_some, List.length_map, unStrs, unInts, unBools, uneL_eIs, unBeats, uneL_eBeats, unSpans, unHoles, unLevels, unFigss, unRatios, unReps, unStays, F.lt, F.le, cond_true, cond_false, Bool.and_true, Bool.true_and, F.border]
  cases F.cmp a.session b.session != 0 <;> cases decide (a.no < b.no) <;> cases decide (b.no < a.no) <;> rfl

theorem evRBor (a : Beat) (b : Beat) : (runF enBor false Try.f59 [.agg (eBeat a), .agg (eBeat b)]).val =
  Option.bind (unenc encCmp [(vS a.session), (vS b.session)]) fun (z : ByteArray × ByteArray) => bif F.cmp z.fst z.snd != (0 : Int) then some ((vI (F.cmp z.fst z.snd)), [])
  else some ((vI (IntKind.wrap IntKind.i64 (a.no - b.no))), []) := by kernel_rfl

def encRBor1 (a : Beat) (b : Beat) : List AV := [.agg (eBeat a), .agg (eBeat b)]

def encRBor (a : Beat × Beat) : List AV := encRBor1 a.1 a.2

theorem encRBor_inj (a a' : Beat × Beat) (h : encRBor a = encRBor a') : a = a' := by
  simp only [encRBor, encRBor1] at h
  try simp [strs_inj, ints_inj, bools_inj, eL_eIs_inj, eBeats_inj, eBeat_iff, eL_eBeats_inj, eSpans_inj, eSpan_iff, eHoles_inj, eHole_iff, eLevels_inj, eLevel_iff, eFigss_inj, eFigs_iff, eRatios_inj, eRatio_iff, eReps_inj, eRep_iff, eStays_inj, eStay_iff] at h
  grind

theorem unRBor (a : Beat) (b : Beat) : unenc encRBor ([AV.agg [(vS a.session), (vI a.no), (vI a.time), (vI a.state), (vI a.rate)], AV.agg [(vS b.session), (vI b.no), (vI b.time), (vI b.state), (vI b.rate)]]) = some (a, b) := unenc_of encRBor_inj (a, b) rfl

theorem unRBorw (a_session : ByteArray) (a_no : Int) (a_time : Int) (a_state : Int) (a_rate : Int) (b_session : ByteArray) (b_no : Int) (b_time : Int) (b_state : Int) (b_rate : Int) : unenc encRBor ([AV.agg [(vS a_session), (vI a_no), (vI a_time), (vI a_state), (vI a_rate)], AV.agg [(vS b_session), (vI b_no), (vI b_time), (vI b_state), (vI b_rate)]]) = some ((Beat.mk a_session a_no a_time a_state a_rate), (Beat.mk b_session b_no b_time b_state b_rate)) := unenc_of encRBor_inj ((Beat.mk a_session a_no a_time a_state a_rate), (Beat.mk b_session b_no b_time b_state b_rate)) rfl

def resRBor1 (a : Beat) (b : Beat) : AV × Heap := (vI (F.rborder a b), [])

def preRBor1 (a : Beat) (b : Beat) : Bool := true

noncomputable def oRBor : Orc := orc 59 true encRBor (fun a => preRBor1 a.1 a.2) fun a => resRBor1 a.1 a.2

theorem okRBor : OrcOK Try.prog noG oRBor := by
  refine mk_ok Try.f59 (keep := false) (by kernel_rfl) (by kernel_rfl) enBor_ok mixed (no_loops (by kernel_rfl)) (by first | exact fun _ _ => ⟨rfl, rfl⟩ | (intro h; cases h)) ?_
  rintro ⟨a, b⟩ hpre hok
  show (runF enBor false _ (encRBor1 _ _)).val = some (resRBor1 _ _)
  unfold encRBor1 resRBor1
  rw [evRBor]
  simp only [unCmp, preCmp1, etaBeat, etaSpan, etaHole, etaLevel, etaFigs, etaRatio, etaRep, etaStay, Option.bind_some, List.length_map, unStrs, unInts, unBools, uneL_eIs, unBeats, uneL_eBeats, unSpans, unHoles, unLevels, unFigss, unRatios, unReps, unStays, F.lt, F.le, cond_true, cond_false, Bool.and_true, Bool.true_and, F.rborder]
  cases F.cmp a.session b.session != 0 <;> rfl

def stChb (l : List Beat) (k : Nat) : St := ⟨[(11, vI k), (10, vI l.length), (9, .sl (l.map eBeat)), (0, .sl (l.map eBeat))], []⟩

def stChb1 (a : (List Beat) × Nat) : St := stChb a.1 a.2

theorem stChb_inj (a a' : (List Beat) × Nat) (h : stChb1 a = stChb1 a') : a = a' := by
  simp only [stChb1, stChb] at h
  try simp [strs_inj, ints_inj, bools_inj, eL_eIs_inj, eBeats_inj, eBeat_iff, eL_eBeats_inj, eSpans_inj, eSpan_iff, eHoles_inj, eHole_iff, eLevels_inj, eLevel_iff, eFigss_inj, eFigs_iff, eRatios_inj, eRatio_iff, eReps_inj, eRep_iff, eStays_inj, eStay_iff] at h
  grind

theorem unstChb (l : List Beat) (k : Nat) : unenc stChb1 (St.mk [(11, (vI (↑k : Int))), (10, (vI (↑(List.length l) : Int))), (9, AV.sl (List.map eBeat l)), (0, AV.sl (List.map eBeat l))] []) = some (l, k) := unenc_of stChb_inj (l, k) rfl

theorem unstChb0 (l : List Beat)  : unenc stChb1 (St.mk [(11, (vI (0 : Int))), (10, (vI (↑(List.length l) : Int))), (9, AV.sl (List.map eBeat l)), (0, AV.sl (List.map eBeat l))] []) = some (l, 0) := unenc_of stChb_inj (l, 0) rfl

def outChb (l : List Beat) (k : Nat) : T (Ex × St) := .ifB (decide (F.chkB (F.prev l k) (l.drop k) = 0)) (.ret (.exit 0, ⟨[], []⟩)) (.ret (.ret, ⟨[(2, vI (F.chkB (F.prev l k) (l.drop k)))], []⟩))

noncomputable def prlChb (l : List Beat) (k : Nat) : Bool := decide (l.length ≤ 9223372036854775807) && decide (k ≤ l.length) && F.prevOK l k

noncomputable def lpChb : Nat × (St → T (Ex × St)) := (4, lpo [11, 10, 9, 0] [] stChb1 (fun a => prlChb a.1 a.2) fun a => outChb a.1 a.2)

noncomputable def enChb : Env := envH ty noG lks [oName, oOut, oBor] [] [] [lpChb]

theorem enChb_ok : EnvOK Try.prog enChb := by
  refine envH_ok lks_ok ty_ok ?_ ?_
  · simp only [List.forall_mem_cons]
    exact ⟨okName, okOut, okBor, by simp⟩
  · simp

theorem chb_step {E : Env} {x : Code} {n e r : List Nat × List Nat} {l : List Beat} {st : Nat → St} (hs : ∀ k, closedB (st k) = true)
    (hend : ((exec E x (st l.length)).bind (lessX n e r)).val = some (.exit 0, ⟨[], []⟩))
    (h0 : ∀ y, l[0]? = some y → ((exec E x (st 0)).bind (lessX n e r)).val = bif F.beatF1 y != 0 then some (.ret, ⟨[(2, vI (F.beatF1 y))], []⟩) else some (.normal, st 1))
    (h1 : ∀ j o y, l[j]? = some o → l[j + 1]? = some y → F.beatF1 o = 0 → ((exec E x (st (j + 1))).bind (lessX n e r)).val =
      bif F.beatF1 y != 0 then some (.ret, ⟨[(2, vI (F.beatF1 y))], []⟩) else bif F.beatF2 o y != 0 then some (.ret, ⟨[(2, vI (F.beatF2 o y))], []⟩) else some (.normal, st (j + 2)))
    (k : Nat) (hp : l.length ≤ 9223372036854775807 ∧ k ≤ l.length ∧ F.prevOK l k = true) : ∀ ex s', (outChb l k).val = some (ex, s') → LoopOK E x (st k) ex s' := by
  refine loop_gen (st := st) (out := outChb l) (I := fun k => k ≤ l.length ∧ ∀ o, F.prev l k = some o → F.beatF1 o = 0) (n := n) (e := e) (r := r) (fun k => l.length - k) ?_ k ?_
  · rintro k ⟨hk, hpv⟩
    by_cases hlt : k < l.length
    · have hy : l[k]? = some l[k] := List.getElem?_eq_getElem hlt
      have hd : l.drop k = l[k] :: l.drop (k + 1) := List.drop_eq_getElem_cons hlt
      generalize l[k] = y at hy hd
      have hpn : F.prev l (k + 1) = some y := hy
      simp only [outChb, hd, F.chkB]
      cases k with
      | zero =>
        have := h0 y hy
        cases hf : F.beatF1 y != 0
        · right
          simp only [hf, cond_false] at this ⊢
          exact ⟨1, this, hs _, ⟨hlt, fun o ho => by have : some y = some o := hpn.symm.trans ho; cases this; simpa using hf⟩, by omega, by simp only [F.prev, hy]; rfl⟩
        · left
          simp only [hf, cond_true] at this ⊢
          have hne : F.beatF1 y ≠ 0 := by simpa using hf
          exact ⟨_, this, by simp [T.val, hne], by simp, rfl⟩
      | succ j =>
        have ho : l[j]? = some l[j] := List.getElem?_eq_getElem (by omega)
        have hf0 := hpv _ ho
        have := h1 j _ y ho hy hf0
        simp only [F.prev, ho]
        cases hf : F.beatF1 y != 0
        · simp only [hf, cond_false] at this ⊢
          cases hg : F.beatF2 l[j] y != 0
          · right
            simp only [hg, cond_false] at this ⊢
            exact ⟨j + 2, this, hs _, ⟨hlt, fun o ho => by have : some y = some o := hpn.symm.trans ho; cases this; simpa using hf⟩, by omega, by simp only [hy]⟩
          · left
            simp only [hg, cond_true] at this ⊢
            have hne : F.beatF2 l[j] y ≠ 0 := by simpa using hg
            exact ⟨_, this, by simp [T.val, hne], by simp, rfl⟩
        · left
          simp only [hf, cond_true] at this ⊢
          have hne : F.beatF1 y ≠ 0 := by simpa using hf
          exact ⟨_, this, by simp [T.val, hne], by simp, rfl⟩
    · have : k = l.length := by omega
      subst this
      left
      exact ⟨_, hend, by simp [outChb, F.chkB, T.val], by simp, rfl⟩
  · refine ⟨hp.2.1, fun o ho => ?_⟩
    have := hp.2.2
    unfold F.prevOK at this
    rw [ho] at this
    simpa using this

theorem evChbL (l : List Beat) (k : Nat) : ((exec enChb (loopN Try.f45 0) (stChb l k)).bind (lessX ([11, 10, 9, 0], []) ([], []) ([2], []))).val =
  bif decide ((↑k : Int) < (↑(List.length l) : Int)) then Option.bind (unenc (List.map eBeat) (List.map eBeat l)) fun (z : List Beat) => bif decide (k < List.length z) then
  Option.bind (unenc encName [(vS (List.getD z k (Beat.mk (ByteArray.mk (Array.mk [])) (0 : Int) (0 : Int) (0 : Int) (0 : Int))).session)]) fun (z_1 : ByteArray) => bif
  !F.isName z_1 then some (Ex.ret, St.mk [(2, (vI (5 : Int)))] []) else Option.bind (unenc encOut [(vI (List.getD z k (Beat.mk (ByteArray.mk (Array.mk [])) (0 : Int) (0 :
  Int) (0 : Int) (0 : Int))).no), (vI (1 : Int)), (vI (3000 : Int))]) fun (z_2 : Int × Int × Int) => bif !F.out z_2.fst z_2.snd.fst z_2.snd.snd then Option.bind (unenc
  encOut [(vI (List.getD z k (Beat.mk (ByteArray.mk (Array.mk [])) (0 : Int) (0 : Int) (0 : Int) (0 : Int))).time), (vI (0 : Int)), (vI (1000000000000 : Int))]) fun (z_3 :
  Int × Int × Int) => bif bif F.out z_2.fst z_2.snd.fst z_2.snd.snd then true else F.out z_3.fst z_3.snd.fst z_3.snd.snd then some (Ex.ret, St.mk [(2, (vI (1 : Int)))] [])
  else Option.bind (unenc encOut [(vI (List.getD z k (Beat.mk (ByteArray.mk (Array.mk [])) (0 : Int) (0 : Int) (0 : Int) (0 : Int))).state), (vI (1 : Int)), (vI (5 : Int))])
  fun (z_4 : Int × Int × Int) => bif F.out z_4.fst z_4.snd.fst z_4.snd.snd then some (Ex.ret, St.mk [(2, (vI (4 : Int)))] []) else Option.bind (unenc encOut [(vI (List.getD
  z k (Beat.mk (ByteArray.mk (Array.mk [])) (0 : Int) (0 : Int) (0 : Int) (0 : Int))).rate), (vI (0 : Int)), (vI (1000000000 : Int))]) fun (z_5 : Int × Int × Int) => bif
  F.out z_5.fst z_5.snd.fst z_5.snd.snd then some (Ex.ret, St.mk [(2, (vI (1 : Int)))] []) else bif bif (List.getD z k (Beat.mk (ByteArray.mk (Array.mk [])) (0 : Int) (0 :
  Int) (0 : Int) (0 : Int))).rate != (0 : Int) then (List.getD z k (Beat.mk (ByteArray.mk (Array.mk [])) (0 : Int) (0 : Int) (0 : Int) (0 : Int))).state != (2 : Int) else
  false then some (Ex.ret, St.mk [(2, (vI (3 : Int)))] []) else bif (↑k : Int) == (0 : Int) then some (Ex.normal, St.mk [(11, (vI (IntKind.wrap IntKind.i64 ((↑k : Int) + (1
  : Int))))), (10, (vI (↑(List.length l) : Int))), (9, AV.sl (List.map eBeat l)), (0, AV.sl (List.map eBeat l))] []) else Option.bind (idx (IntKind.wrap IntKind.i64 ((↑k :
  Int) - (1 : Int)))) fun (z_6 : Nat) => Option.bind (unenc (List.map eBeat) (List.map eBeat l)) fun (z_7 : List Beat) => bif decide (z_6 < List.length z_7) then Option.bind
  (unenc encBor [AV.agg [(vS (List.getD z_7 z_6 (Beat.mk (ByteArray.mk (Array.mk [])) (0 : Int) (0 : Int) (0 : Int) (0 : Int))).session), (vI (List.getD z_7 z_6 (Beat.mk
  (ByteArray.mk (Array.mk [])) (0 : Int) (0 : Int) (0 : Int) (0 : Int))).no), (vI (List.getD z_7 z_6 (Beat.mk (ByteArray.mk (Array.mk [])) (0 : Int) (0 : Int) (0 : Int) (0 :
  Int))).time), (vI (List.getD z_7 z_6 (Beat.mk (ByteArray.mk (Array.mk [])) (0 : Int) (0 : Int) (0 : Int) (0 : Int))).state), (vI (List.getD z_7 z_6 (Beat.mk (ByteArray.mk
  (Array.mk [])) (0 : Int) (0 : Int) (0 : Int) (0 : Int))).rate)], AV.agg [(vS (List.getD z k (Beat.mk (ByteArray.mk (Array.mk [])) (0 : Int) (0 : Int) (0 : Int) (0 :
  Int))).session), (vI (List.getD z k (Beat.mk (ByteArray.mk (Array.mk [])) (0 : Int) (0 : Int) (0 : Int) (0 : Int))).no), (vI (List.getD z k (Beat.mk (ByteArray.mk
  (Array.mk [])) (0 : Int) (0 : Int) (0 : Int) (0 : Int))).time), (vI (List.getD z k (Beat.mk (ByteArray.mk (Array.mk [])) (0 : Int) (0 : Int) (0 : Int) (0 : Int))).state),
  (vI (List.getD z k (Beat.mk (ByteArray.mk (Array.mk [])) (0 : Int) (0 : Int) (0 : Int) (0 : Int))).rate)]]) fun (z_8 : Beat × Beat) => bif bif decide ((0 : Int) ≤ F.border
  z_8.fst z_8.snd) then true else bif ByteArray.toList (List.getD z_7 z_6 (Beat.mk (ByteArray.mk (Array.mk [])) (0 : Int) (0 : Int) (0 : Int) (0 : Int))).session ==
  ByteArray.toList (List.getD z k (Beat.mk (ByteArray.mk (Array.mk [])) (0 : Int) (0 : Int) (0 : Int) (0 : Int))).session then decide ((List.getD z k (Beat.mk (ByteArray.mk
  (Array.mk [])) (0 : Int) (0 : Int) (0 : Int) (0 : Int))).time < (List.getD z_7 z_6 (Beat.mk (ByteArray.mk (Array.mk [])) (0 : Int) (0 : Int) (0 : Int) (0 : Int))).time)
  else false then some (Ex.ret, St.mk [(2, (vI (8 : Int)))] []) else bif bif ByteArray.toList (List.getD z_7 z_6 (Beat.mk (ByteArray.mk (Array.mk [])) (0 : Int) (0 : Int) (0
  : Int) (0 : Int))).session == ByteArray.toList (List.getD z k (Beat.mk (ByteArray.mk (Array.mk [])) (0 : Int) (0 : Int) (0 : Int) (0 : Int))).session then (List.getD z_7
  z_6 (Beat.mk (ByteArray.mk (Array.mk [])) (0 : Int) (0 : Int) (0 : Int) (0 : Int))).state == (5 : Int) else false then some (Ex.ret, St.mk [(2, (vI (11 : Int)))] []) else
  some (Ex.normal, St.mk [(11, (vI (IntKind.wrap IntKind.i64 ((↑k : Int) + (1 : Int))))), (10, (vI (↑(List.length l) : Int))), (9, AV.sl (List.map eBeat l)), (0, AV.sl
  (List.map eBeat l))] []) else none else some (Ex.ret, St.mk [(2, (vI (1 : Int)))] []) else none else some (Ex.exit (0 : Nat), St.mk [] []) := by kernel_rfl

theorem lpChb_ok (l : List Beat) (k : Nat) (hp : prlChb l k = true) : ∀ ex s', (outChb l k).val = some (ex, s') → LoopOK enChb (loopN Try.f45 0) (stChb l k) ex s' := by
  simp only [prlChb, Bool.and_eq_true, decide_eq_true_eq] at hp
  have hl := hp.1.1
  refine chb_step (st := stChb l) (fun _ => rfl) (n := ([11, 10, 9, 0], [])) (e := ([], [])) (r := ([2], [])) ?_ ?_ ?_ k ⟨hp.1.1, hp.1.2, hp.2⟩
  · rw [evChbL]; simp
  · intro y hy
    have hlt := lt_at hy
    rw [evChbL]
    simp only [unName, unOut, unBor, unBorw, preName1, preOut1, preBor1, unstChb, unstChb0, prlChb, outChb, etaBeat, etaSpan, etaHole, etaLevel, etaFigs, etaRatio, etaRep, etaStay, Option.bind_some, List.length_map, unStrs, unInts, unBools, uneL_eIs, unBeats, uneL_eBeats, unSpans, unHoles, unLevels, unFigss, unRatios, unReps, unStays, F.lt, F.le, cond_true, cond_false, Bool.and_true, Bool.true_and, cast_lt hlt, decide_eq_true hlt, next_at hlt hl, getD_at hy, stChb, F.beatF1, Bool.not_not]
    generalize F.isName y.session = a1
    generalize F.out y.no 1 3000 = a2
    generalize F.out y.time 0 1000000000000 = a3
    generalize F.out y.state 1 5 = a4
    generalize F.out y.rate 0 1000000000 = a5
    generalize (y.rate != 0) = a6
    generalize (y.state != 2) = a7
    cases a1
    · rfl
    cases a2
    · cases a3
      · cases a4
        · cases a5
          · cases a6 <;> cases a7 <;> rfl
          · rfl
        · rfl
      · rfl
    · rfl
  · intro j o y ho hy hf
    have hlt := lt_at hy
    have hlt' := lt_at ho
    have hz : (((j + 1 : Nat) : Int) == 0) = false := by rw [beq_eq_false_iff_ne]; omega
    rw [evChbL]
    simp only [unName, unOut, unBor, unBorw, preName1, preOut1, preBor1, unstChb, unstChb0, prlChb, outChb, etaBeat, etaSpan, etaHole, etaLevel, etaFigs, etaRatio, etaRep, etaStay, Option.bind_some, List.length_map, unStrs, unInts, unBools, uneL_eIs, unBeats, uneL_eBeats, unSpans, unHoles, unLevels, unFigss, unRatios, unReps, unStays, F.lt, F.le, cond_true, cond_false, Bool.and_true, Bool.true_and, cast_lt hlt, decide_eq_true hlt, decide_eq_true hlt', next_at hlt hl, getD_at hy, getD_at ho, stChb, hz, idx_sub (by omega : j + 1 ≤ 9223372036854775807), F.beatF1, F.beatF2, F.seq, Bool.not_not]
    generalize F.isName y.session = a1
    generalize F.out y.time 0 1000000000000 = a3
    generalize F.out y.state 1 5 = a4
    generalize F.out y.rate 0 1000000000 = a5
    generalize (y.rate != 0) = a6
    generalize (y.state != 2) = a7
    generalize (o.session.toList == y.session.toList) = a9
    generalize decide (y.time < o.time) = a10
    generalize (o.state == 5) = a11
    generalize F.out y.no 1 3000 = a2
    generalize decide (0 ≤ F.border o y) = a8
    cases a1
    · rfl
    cases a2
    · cases a3
      · cases a4
        · cases a5
          · cases a6 <;> cases a7 <;> first | rfl | (cases a8 <;> first | rfl | (cases a9 <;> first | rfl | (cases a10 <;> first | rfl | (cases a11 <;> rfl))))
          · rfl
        · rfl
      · rfl
    · rfl

theorem evChb (l : List Beat) : (runF enChb false Try.f45 [.sl (l.map eBeat)]).val =
  bif decide ((3000 : Int) < (↑(List.length (List.map eBeat l)) : Int)) then some ((vI (2 : Int)), []) else Option.bind (unenc stChb1 (St.mk [(11, (vI (0 : Int))), (10, (vI
  (↑(List.length (List.map eBeat l)) : Int))), (9, AV.sl (List.map eBeat l)), (0, AV.sl (List.map eBeat l))] [])) fun (z : List Beat × Nat) => bif decide (List.length z.fst
  ≤ (9223372036854775807 : Nat)) && decide (z.snd ≤ List.length z.fst) && F.prevOK z.fst z.snd && true then bif decide (F.chkB (F.prev z.fst z.snd) (List.drop z.snd z.fst) =
  (0 : Int)) then some ((vI (0 : Int)), []) else some ((vI (F.chkB (F.prev z.fst z.snd) (List.drop z.snd z.fst))), []) else none := by kernel_rfl

def encChb1 (l : List Beat) : List AV := [.sl (l.map eBeat)]

def encChb (a : (List Beat)) : List AV := encChb1 a

theorem encChb_inj (a a' : (List Beat)) (h : encChb a = encChb a') : a = a' := by
  simp only [encChb, encChb1] at h
  try simp [strs_inj, ints_inj, bools_inj, eL_eIs_inj, eBeats_inj, eBeat_iff, eL_eBeats_inj, eSpans_inj, eSpan_iff, eHoles_inj, eHole_iff, eLevels_inj, eLevel_iff, eFigss_inj, eFigs_iff, eRatios_inj, eRatio_iff, eReps_inj, eRep_iff, eStays_inj, eStay_iff] at h
  grind

theorem unChb (l : List Beat) : unenc encChb ([AV.sl (List.map eBeat l)]) = some (l) := unenc_of encChb_inj (l) rfl

def resChb1 (l : List Beat) : AV × Heap := (vI (F.checkB l), [])

def preChb1 (l : List Beat) : Bool := true

noncomputable def oChb : Orc := orc 45 true encChb (fun a => preChb1 a) fun a => resChb1 a

theorem okChb : OrcOK Try.prog noG oChb := by
  refine mk_ok Try.f45 (keep := false) (by kernel_rfl) (by kernel_rfl) enChb_ok mixed (one_loop (x0 := loopN Try.f45 0) (by kernel_rfl) (lpo_ok ?_)) (by first | exact fun _ _ => ⟨rfl, rfl⟩ | (intro h; cases h)) ?_
  · rintro ⟨l, k⟩ hp
    exact lpChb_ok l k hp
  rintro l hpre hok
  show (runF enChb false _ (encChb1 _)).val = some (resChb1 _)
  unfold encChb1 resChb1
  rw [evChb]
  have hx : l.length ≤ 9223372036854775807 := by simpa using (okA_sl (hok _ (List.mem_cons_self ..))).1
  have hz : F.prevOK l 0 = true := rfl
  have hp : F.prev l 0 = none := rfl
  simp only [unName, unOut, unBor, unBorw, preName1, preOut1, preBor1, unstChb, unstChb0, prlChb, outChb, etaBeat, etaSpan, etaHole, etaLevel, etaFigs, etaRatio, etaRep, etaStay, Option.bind_some, List.length_map, unStrs, unInts, unBools, uneL_eIs, unBeats, uneL_eBeats, unSpans, unHoles, unLevels, unFigss, unRatios, unReps, unStays, F.lt, F.le, cond_true, cond_false, Bool.and_true, Bool.true_and, hx, hz, hp, List.drop_zero, Nat.zero_le, decide_true, F.checkB]
  have e : decide ((3000 : Int) < l.length) = decide (3000 < l.length) := by by_cases h : 3000 < l.length <;> simp [h] <;> omega
  rw [e]
  cases decide (3000 < l.length)
  · simp only [cond_false]
    by_cases h2 : F.chkB none l = 0 <;> simp [h2]
  · rfl

def stRhb (l : List Beat) (k : Nat) : St := ⟨[(11, vI k), (10, vI l.length), (9, .sl (l.map eBeat)), (0, .sl (l.map eBeat))], []⟩

def stRhb1 (a : (List Beat) × Nat) : St := stRhb a.1 a.2

theorem stRhb_inj (a a' : (List Beat) × Nat) (h : stRhb1 a = stRhb1 a') : a = a' := by
  simp only [stRhb1, stRhb] at h
  try simp [strs_inj, ints_inj, bools_inj, eL_eIs_inj, eBeats_inj, eBeat_iff, eL_eBeats_inj, eSpans_inj, eSpan_iff, eHoles_inj, eHole_iff, eLevels_inj, eLevel_iff, eFigss_inj, eFigs_iff, eRatios_inj, eRatio_iff, eReps_inj, eRep_iff, eStays_inj, eStay_iff] at h
  grind

theorem unstRhb (l : List Beat) (k : Nat) : unenc stRhb1 (St.mk [(11, (vI (↑k : Int))), (10, (vI (↑(List.length l) : Int))), (9, AV.sl (List.map eBeat l)), (0, AV.sl (List.map eBeat l))] []) = some (l, k) := unenc_of stRhb_inj (l, k) rfl

theorem unstRhb0 (l : List Beat)  : unenc stRhb1 (St.mk [(11, (vI (0 : Int))), (10, (vI (↑(List.length l) : Int))), (9, AV.sl (List.map eBeat l)), (0, AV.sl (List.map eBeat l))] []) = some (l, 0) := unenc_of stRhb_inj (l, 0) rfl

def outRhb (l : List Beat) (k : Nat) : T (Ex × St) := .ifB (decide (F.chkB (F.prev l k) (l.drop k) = 0)) (.ret (.exit 0, ⟨[], []⟩)) (.ret (.ret, ⟨[(2, vI (F.chkB (F.prev l k) (l.drop k)))], []⟩))

noncomputable def prlRhb (l : List Beat) (k : Nat) : Bool := decide (l.length ≤ 9223372036854775807) && decide (k ≤ l.length) && F.prevOK l k

noncomputable def lpRhb : Nat × (St → T (Ex × St)) := (4, lpo [11, 10, 9, 0] [] stRhb1 (fun a => prlRhb a.1 a.2) fun a => outRhb a.1 a.2)

noncomputable def enRhb : Env := envH ty noG lks [oSes, oRng, oRBor] [] [] [lpRhb]

theorem enRhb_ok : EnvOK Try.prog enRhb := by
  refine envH_ok lks_ok ty_ok ?_ ?_
  · simp only [List.forall_mem_cons]
    exact ⟨okSes, okRng, okRBor, by simp⟩
  · simp

theorem evRhbL (l : List Beat) (k : Nat) : ((exec enRhb (loopN Try.f48 0) (stRhb l k)).bind (lessX ([11, 10, 9, 0], []) ([], []) ([2], []))).val =
  bif decide ((↑k : Int) < (↑(List.length l) : Int)) then Option.bind (unenc (List.map eBeat) (List.map eBeat l)) fun (z : List Beat) => bif decide (k < List.length z) then
  Option.bind (unenc encSes [(vS (List.getD z k (Beat.mk (ByteArray.mk (Array.mk [])) (0 : Int) (0 : Int) (0 : Int) (0 : Int))).session)]) fun (z_1 : ByteArray) => bif
  !F.isName z_1 then some (Ex.ret, St.mk [(2, (vI (5 : Int)))] []) else Option.bind (unenc encRng [(vI (List.getD z k (Beat.mk (ByteArray.mk (Array.mk [])) (0 : Int) (0 :
  Int) (0 : Int) (0 : Int))).no), (vI (1 : Int)), (vI (3000 : Int))]) fun (z_2 : Int × Int × Int) => bif !!!F.out z_2.fst z_2.snd.fst z_2.snd.snd then Option.bind (unenc
  encRng [(vI (List.getD z k (Beat.mk (ByteArray.mk (Array.mk [])) (0 : Int) (0 : Int) (0 : Int) (0 : Int))).time), (vI (0 : Int)), (vI (1000000000000 : Int))]) fun (z_3 :
  Int × Int × Int) => bif bif !!F.out z_2.fst z_2.snd.fst z_2.snd.snd then true else !!F.out z_3.fst z_3.snd.fst z_3.snd.snd then some (Ex.ret, St.mk [(2, (vI (1 : Int)))]
  []) else Option.bind (unenc encRng [(vI (List.getD z k (Beat.mk (ByteArray.mk (Array.mk [])) (0 : Int) (0 : Int) (0 : Int) (0 : Int))).state), (vI (1 : Int)), (vI (5 :
  Int))]) fun (z_4 : Int × Int × Int) => bif !!F.out z_4.fst z_4.snd.fst z_4.snd.snd then some (Ex.ret, St.mk [(2, (vI (4 : Int)))] []) else Option.bind (unenc encRng [(vI
  (List.getD z k (Beat.mk (ByteArray.mk (Array.mk [])) (0 : Int) (0 : Int) (0 : Int) (0 : Int))).rate), (vI (0 : Int)), (vI (1000000000 : Int))]) fun (z_5 : Int × Int × Int)
  => bif !!F.out z_5.fst z_5.snd.fst z_5.snd.snd then some (Ex.ret, St.mk [(2, (vI (1 : Int)))] []) else bif bif (List.getD z k (Beat.mk (ByteArray.mk (Array.mk [])) (0 :
  Int) (0 : Int) (0 : Int) (0 : Int))).rate != (0 : Int) then (List.getD z k (Beat.mk (ByteArray.mk (Array.mk [])) (0 : Int) (0 : Int) (0 : Int) (0 : Int))).state != (2 :
  Int) else false then some (Ex.ret, St.mk [(2, (vI (3 : Int)))] []) else bif (↑k : Int) == (0 : Int) then some (Ex.normal, St.mk [(11, (vI (IntKind.wrap IntKind.i64 ((↑k :
  Int) + (1 : Int))))), (10, (vI (↑(List.length l) : Int))), (9, AV.sl (List.map eBeat l)), (0, AV.sl (List.map eBeat l))] []) else Option.bind (idx (IntKind.wrap
  IntKind.i64 ((↑k : Int) - (1 : Int)))) fun (z_6 : Nat) => Option.bind (unenc (List.map eBeat) (List.map eBeat l)) fun (z_7 : List Beat) => bif decide (z_6 < List.length
  z_7) then Option.bind (unenc encRBor [AV.agg [(vS (List.getD z_7 z_6 (Beat.mk (ByteArray.mk (Array.mk [])) (0 : Int) (0 : Int) (0 : Int) (0 : Int))).session), (vI
  (List.getD z_7 z_6 (Beat.mk (ByteArray.mk (Array.mk [])) (0 : Int) (0 : Int) (0 : Int) (0 : Int))).no), (vI (List.getD z_7 z_6 (Beat.mk (ByteArray.mk (Array.mk [])) (0 :
  Int) (0 : Int) (0 : Int) (0 : Int))).time), (vI (List.getD z_7 z_6 (Beat.mk (ByteArray.mk (Array.mk [])) (0 : Int) (0 : Int) (0 : Int) (0 : Int))).state), (vI (List.getD
  z_7 z_6 (Beat.mk (ByteArray.mk (Array.mk [])) (0 : Int) (0 : Int) (0 : Int) (0 : Int))).rate)], AV.agg [(vS (List.getD z k (Beat.mk (ByteArray.mk (Array.mk [])) (0 : Int)
  (0 : Int) (0 : Int) (0 : Int))).session), (vI (List.getD z k (Beat.mk (ByteArray.mk (Array.mk [])) (0 : Int) (0 : Int) (0 : Int) (0 : Int))).no), (vI (List.getD z k
  (Beat.mk (ByteArray.mk (Array.mk [])) (0 : Int) (0 : Int) (0 : Int) (0 : Int))).time), (vI (List.getD z k (Beat.mk (ByteArray.mk (Array.mk [])) (0 : Int) (0 : Int) (0 :
  Int) (0 : Int))).state), (vI (List.getD z k (Beat.mk (ByteArray.mk (Array.mk [])) (0 : Int) (0 : Int) (0 : Int) (0 : Int))).rate)]]) fun (z_8 : Beat × Beat) => bif decide
  ((0 : Int) ≤ F.rborder z_8.fst z_8.snd) then some (Ex.ret, St.mk [(2, (vI (8 : Int)))] []) else bif ByteArray.toList (List.getD z_7 z_6 (Beat.mk (ByteArray.mk (Array.mk
  [])) (0 : Int) (0 : Int) (0 : Int) (0 : Int))).session == ByteArray.toList (List.getD z k (Beat.mk (ByteArray.mk (Array.mk [])) (0 : Int) (0 : Int) (0 : Int) (0 :
  Int))).session then bif decide ((List.getD z k (Beat.mk (ByteArray.mk (Array.mk [])) (0 : Int) (0 : Int) (0 : Int) (0 : Int))).time < (List.getD z_7 z_6 (Beat.mk
  (ByteArray.mk (Array.mk [])) (0 : Int) (0 : Int) (0 : Int) (0 : Int))).time) then some (Ex.ret, St.mk [(2, (vI (8 : Int)))] []) else bif (List.getD z_7 z_6 (Beat.mk
  (ByteArray.mk (Array.mk [])) (0 : Int) (0 : Int) (0 : Int) (0 : Int))).state == (5 : Int) then some (Ex.ret, St.mk [(2, (vI (11 : Int)))] []) else some (Ex.normal, St.mk
  [(11, (vI (IntKind.wrap IntKind.i64 ((↑k : Int) + (1 : Int))))), (10, (vI (↑(List.length l) : Int))), (9, AV.sl (List.map eBeat l)), (0, AV.sl (List.map eBeat l))] [])
  else some (Ex.normal, St.mk [(11, (vI (IntKind.wrap IntKind.i64 ((↑k : Int) + (1 : Int))))), (10, (vI (↑(List.length l) : Int))), (9, AV.sl (List.map eBeat l)), (0, AV.sl
  (List.map eBeat l))] []) else none else bif !!!F.out z_2.fst z_2.snd.fst z_2.snd.snd then none else some (Ex.ret, St.mk [(2, (vI (1 : Int)))] []) else none else some
  (Ex.exit (0 : Nat), St.mk [] []) := by kernel_rfl

theorem lpRhb_ok (l : List Beat) (k : Nat) (hp : prlRhb l k = true) : ∀ ex s', (outRhb l k).val = some (ex, s') → LoopOK enRhb (loopN Try.f48 0) (stRhb l k) ex s' := by
  simp only [prlRhb, Bool.and_eq_true, decide_eq_true_eq] at hp
  have hl := hp.1.1
  refine chb_step (st := stRhb l) (fun _ => rfl) (n := ([11, 10, 9, 0], [])) (e := ([], [])) (r := ([2], [])) ?_ ?_ ?_ k ⟨hp.1.1, hp.1.2, hp.2⟩
  · rw [evRhbL]; simp
  · intro y hy
    have hlt := lt_at hy
    rw [evRhbL]
    simp only [unSes, unRng, unRBor, unRBorw, preSes1, preRng1, preRBor1, unstRhb, unstRhb0, prlRhb, outRhb, etaBeat, etaSpan, etaHole, etaLevel, etaFigs, etaRatio, etaRep, etaStay, Option.bind_some, List.length_map, unStrs, unInts, unBools, uneL_eIs, unBeats, uneL_eBeats, unSpans, unHoles, unLevels, unFigss, unRatios, unReps, unStays, F.lt, F.le, cond_true, cond_false, Bool.and_true, Bool.true_and, cast_lt hlt, decide_eq_true hlt, next_at hlt hl, getD_at hy, stRhb, F.beatF1, Bool.not_not]
    generalize F.isName y.session = a1
    generalize F.out y.no 1 3000 = a2
    generalize F.out y.time 0 1000000000000 = a3
    generalize F.out y.state 1 5 = a4
    generalize F.out y.rate 0 1000000000 = a5
    generalize (y.rate != 0) = a6
    generalize (y.state != 2) = a7
    cases a1
    · rfl
    cases a2
    · cases a3
      · cases a4
        · cases a5
          · cases a6 <;> cases a7 <;> rfl
          · rfl
        · rfl
      · rfl
    · rfl
  · intro j o y ho hy hf
    have hlt := lt_at hy
    have hlt' := lt_at ho
    have hz : (((j + 1 : Nat) : Int) == 0) = false := by rw [beq_eq_false_iff_ne]; omega
    rw [evRhbL]
    simp only [unSes, unRng, unRBor, unRBorw, preSes1, preRng1, preRBor1, unstRhb, unstRhb0, prlRhb, outRhb, etaBeat, etaSpan, etaHole, etaLevel, etaFigs, etaRatio, etaRep, etaStay, Option.bind_some, List.length_map, unStrs, unInts, unBools, uneL_eIs, unBeats, uneL_eBeats, unSpans, unHoles, unLevels, unFigss, unRatios, unReps, unStays, F.lt, F.le, cond_true, cond_false, Bool.and_true, Bool.true_and, cast_lt hlt, decide_eq_true hlt, decide_eq_true hlt', next_at hlt hl, getD_at hy, getD_at ho, stRhb, hz, idx_sub (by omega : j + 1 ≤ 9223372036854775807), F.beatF1, F.beatF2, F.seq, Bool.not_not]
    have hsgn : F.out y.no 1 3000 = false → decide (0 ≤ F.rborder o y) = decide (0 ≤ F.border o y) := fun h => F.rborder_no hf h
    generalize decide (0 ≤ F.rborder o y) = a0 at hsgn ⊢
    generalize F.isName y.session = a1
    generalize F.out y.time 0 1000000000000 = a3
    generalize F.out y.state 1 5 = a4
    generalize F.out y.rate 0 1000000000 = a5
    generalize (y.rate != 0) = a6
    generalize (y.state != 2) = a7
    generalize (o.session.toList == y.session.toList) = a9
    generalize decide (y.time < o.time) = a10
    generalize (o.state == 5) = a11
    generalize F.out y.no 1 3000 = a2 at hsgn ⊢
    generalize decide (0 ≤ F.border o y) = a8 at hsgn ⊢
    cases a1
    · rfl
    cases a2
    · have e := hsgn rfl
      subst e
      cases a3
      · cases a4
        · cases a5
          · cases a6 <;> cases a7 <;> first | rfl | (cases a0 <;> first | rfl | (cases a9 <;> first | rfl | (cases a10 <;> first | rfl | (cases a11 <;> rfl))))
          · rfl
        · rfl
      · rfl
    · rfl

theorem evRhb (l : List Beat) : (runF enRhb false Try.f48 [.sl (l.map eBeat)]).val =
  bif decide ((3000 : Int) < (↑(List.length (List.map eBeat l)) : Int)) then some ((vI (2 : Int)), []) else Option.bind (unenc stRhb1 (St.mk [(11, (vI (0 : Int))), (10, (vI
  (↑(List.length (List.map eBeat l)) : Int))), (9, AV.sl (List.map eBeat l)), (0, AV.sl (List.map eBeat l))] [])) fun (z : List Beat × Nat) => bif decide (List.length z.fst
  ≤ (9223372036854775807 : Nat)) && decide (z.snd ≤ List.length z.fst) && F.prevOK z.fst z.snd && true then bif decide (F.chkB (F.prev z.fst z.snd) (List.drop z.snd z.fst) =
  (0 : Int)) then some ((vI (0 : Int)), []) else some ((vI (F.chkB (F.prev z.fst z.snd) (List.drop z.snd z.fst))), []) else none := by kernel_rfl

def encRhb1 (l : List Beat) : List AV := [.sl (l.map eBeat)]

def encRhb (a : (List Beat)) : List AV := encRhb1 a

theorem encRhb_inj (a a' : (List Beat)) (h : encRhb a = encRhb a') : a = a' := by
  simp only [encRhb, encRhb1] at h
  try simp [strs_inj, ints_inj, bools_inj, eL_eIs_inj, eBeats_inj, eBeat_iff, eL_eBeats_inj, eSpans_inj, eSpan_iff, eHoles_inj, eHole_iff, eLevels_inj, eLevel_iff, eFigss_inj, eFigs_iff, eRatios_inj, eRatio_iff, eReps_inj, eRep_iff, eStays_inj, eStay_iff] at h
  grind

theorem unRhb (l : List Beat) : unenc encRhb ([AV.sl (List.map eBeat l)]) = some (l) := unenc_of encRhb_inj (l) rfl

def resRhb1 (l : List Beat) : AV × Heap := (vI (F.checkB l), [])

def preRhb1 (l : List Beat) : Bool := true

noncomputable def oRhb : Orc := orc 48 true encRhb (fun a => preRhb1 a) fun a => resRhb1 a

theorem okRhb : OrcOK Try.prog noG oRhb := by
  refine mk_ok Try.f48 (keep := false) (by kernel_rfl) (by kernel_rfl) enRhb_ok mixed (one_loop (x0 := loopN Try.f48 0) (by kernel_rfl) (lpo_ok ?_)) (by first | exact fun _ _ => ⟨rfl, rfl⟩ | (intro h; cases h)) ?_
  · rintro ⟨l, k⟩ hp
    exact lpRhb_ok l k hp
  rintro l hpre hok
  show (runF enRhb false _ (encRhb1 _)).val = some (resRhb1 _)
  unfold encRhb1 resRhb1
  rw [evRhb]
  have hx : l.length ≤ 9223372036854775807 := by simpa using (okA_sl (hok _ (List.mem_cons_self ..))).1
  have hz : F.prevOK l 0 = true := rfl
  have hp : F.prev l 0 = none := rfl
  simp only [unSes, unRng, unRBor, unRBorw, preSes1, preRng1, preRBor1, unstRhb, unstRhb0, prlRhb, outRhb, etaBeat, etaSpan, etaHole, etaLevel, etaFigs, etaRatio, etaRep, etaStay, Option.bind_some, List.length_map, unStrs, unInts, unBools, uneL_eIs, unBeats, uneL_eBeats, unSpans, unHoles, unLevels, unFigss, unRatios, unReps, unStays, F.lt, F.le, cond_true, cond_false, Bool.and_true, Bool.true_and, hx, hz, hp, List.drop_zero, Nat.zero_le, decide_true, F.checkB]
  have e : decide ((3000 : Int) < l.length) = decide (3000 < l.length) := by by_cases h : 3000 < l.length <;> simp [h] <;> omega
  rw [e]
  cases decide (3000 < l.length)
  · simp only [cond_false]
    by_cases h2 : F.chkB none l = 0 <;> simp [h2]
  · rfl

end M
end Go.Proofs.Ytnkaadiofjoacaa
