/- What is proved here: what Missing, and the law's works, return on plain data (no statement of the seat). -/
import Derived.Test.YtlemjphdhapfpaaGreatDoorD69
namespace Go.Proofs.YtlemjphdhapfpaaGreatDoor
open Go Go.RowKit
set_option linter.unusedVariables false
set_option linter.unusedSimpArgs false

/-- Strings in order. -/
def F.cmpS (a b : ByteArray) : Int := Lib.compareBytes a.data.toList b.data.toList

/-- The order of beats. -/
def F.border (a b : Beat) : Int := bif F.cmpS a.session b.session != 0 then F.cmpS a.session b.session else bif decide (a.no < b.no) then -1 else bif decide (b.no < a.no) then 1 else 0

/-- The fault of a beat. -/
def F.beatF1 (b : Beat) : Int :=
  bif !F.isName b.session then 5 else bif F.out b.no 1 3000 || F.out b.time 0 1000000000000 then 1 else bif F.out b.state 1 5 then 4 else
  bif F.out b.rate 0 1000000000 then 1 else bif (b.rate != 0) && (b.state != 2) then 3 else 0

/-- The fault of a beat behind another one. -/
def F.beatF2 (o b : Beat) : Int :=
  bif decide (0 ≤ F.border o b) || (F.seq o.session b.session && decide (b.time < o.time)) then 8 else bif F.seq o.session b.session && (o.state == 5) then 11 else 0

def F.chkB : Option Beat → List Beat → Int
  | _, [] => 0
  | p, b :: l => bif F.beatF1 b != 0 then F.beatF1 b else match p with
    | none => F.chkB (some b) l
    | some o => bif F.beatF2 o b != 0 then F.beatF2 o b else F.chkB (some b) l

def F.checkB (l : List Beat) : Int := bif decide (3000 < l.length) then 2 else F.chkB none l

def F.prev (l : List Beat) : Nat → Option Beat
  | 0 => none
  | k + 1 => l[k]?

def F.prevOK (l : List Beat) (k : Nat) : Bool := match F.prev l k with
  | none => true
  | some o => decide (F.beatF1 o = 0)

theorem F.beatF1_ok {b : Beat} (h : F.beatF1 b = 0) : F.isName b.session = true ∧ (1 ≤ b.no ∧ b.no ≤ 3000) ∧ (0 ≤ b.time ∧ b.time ≤ 1000000000000) ∧ (1 ≤ b.state ∧ b.state ≤ 5) ∧ (0 ≤ b.rate ∧ b.rate ≤ 1000000000) ∧ (b.rate ≠ 0 → b.state = 2) := by
  unfold F.beatF1 at h
  cases h1 : F.isName b.session
  · rw [h1] at h; cases h
  cases h2 : F.out b.no 1 3000
  · cases h3 : F.out b.time 0 1000000000000
    · cases h4 : F.out b.state 1 5
      · cases h5 : F.out b.rate 0 1000000000
        · cases h6 : (b.rate != 0) && (b.state != 2)
          · simp only [F.out, Bool.or_eq_false_iff, decide_eq_false_iff_not] at h2 h3 h4 h5
            refine ⟨rfl, by omega, by omega, by omega, by omega, fun hr => ?_⟩
            simp at h6
            exact h6 hr
          · simp only [h1, h2, h3, h4, h5, h6] at h; cases h
        · simp only [h1, h2, h3, h4, h5] at h; cases h
      · simp only [h1, h2, h3, h4] at h; cases h
    · simp only [h1, h2, h3] at h; cases h
  · simp only [h1, h2] at h; cases h

/-- The number that is next behind some beats. -/
def F.nextB (p : Option Beat) (n : Int) (b : Beat) : Int := match p with
  | some o => bif !(o.session.toList == b.session.toList) then 1 else n
  | none => n

def F.missS (a : Option Beat × Int × List Hole) (b : Beat) : Option Beat × Int × List Hole :=
  (some b, IntKind.i64.wrap (b.no + 1), bif F.lt (F.nextB a.1 a.2.1 b) b.no then a.2.2 ++ [⟨b.session, F.nextB a.1 a.2.1 b, b.no⟩] else a.2.2)

def F.missL (p : Option Beat) (n : Int) (acc : List Hole) (l : List Beat) : List Hole := (l.foldl F.missS (p, n, acc)).2.2

def F.missing (l : List Beat) : List Hole × Int := bif F.checkB l != 0 then ([], F.checkB l) else (F.missL none 1 [] l, 0)

theorem F.checkB_len {l : List Beat} (h : F.checkB l = 0) : l.length ≤ 3000 := by
  unfold F.checkB at h
  cases hd : decide (3000 < l.length)
  · simpa using hd
  · rw [hd] at h; cases h

namespace M

theorem cmp_range (a b : List UInt8) : Lib.compareBytes a b = -1 ∨ Lib.compareBytes a b = 0 ∨ Lib.compareBytes a b = 1 := by
  induction a generalizing b with
  | nil => cases b <;> simp [Lib.compareBytes]
  | cons x a ih =>
    cases b with
    | nil => simp [Lib.compareBytes]
    | cons y b =>
      simp only [Lib.compareBytes]
      split
      · simp
      · split
        · simp
        · exact ih b

def encCmS1 (a : ByteArray) (b : ByteArray) : List AV := [vS a, vS b]

def encCmS (a : ByteArray × ByteArray) : List AV := encCmS1 a.1 a.2

theorem encCmS_inj (a a' : ByteArray × ByteArray) (h : encCmS a = encCmS a') : a = a' := by
  simp only [encCmS, encCmS1] at h
  try simp [strs_inj, ints_inj, bools_inj, u8s_inj, eEnts_inj, eEnt_iff, eLsts_inj, eLst_iff, eSegs_inj, eSeg_iff, eRots_inj, eRot_iff, eBeats_inj, eBeat_iff, eSpans_inj, eSpan_iff, eHoles_inj, eHole_iff] at h
  grind

theorem unCmS (a : ByteArray) (b : ByteArray) : unenc encCmS ([(vS a), (vS b)]) = some (a, b) := unenc_of encCmS_inj (a, b) rfl

def resCmS1 (a : ByteArray) (b : ByteArray) : AV × Heap := (vI (F.cmpS a b), [])

def preCmS1 (a : ByteArray) (b : ByteArray) : Bool := true

noncomputable def oCmS : Orc := orc 107 true encCmS (fun a => preCmS1 a.1 a.2) fun a => resCmS1 a.1 a.2

theorem okCmS : OrcOK Tryz.prog noG oCmS := by
  refine orc_ok ⟨Tryz.f107, by kernel_rfl, by kernel_rfl, by kernel_rfl⟩ (fun x _ _ => ?_) (fun _ _ => ⟨rfl, rfl⟩)
  refine SpecP.pure2 ?_ fun _ _ w => Tryz.strings_Compare x.1 x.2 w
  rcases cmp_range x.1.data.toList x.2.data.toList with h | h | h <;> (show okAtom (.int .i64 (Lib.compareBytes _ _)); rw [h]; simp [okAtom, IntKind.min, IntKind.max, IntKind.signed, IntKind.bits])

noncomputable def enBor : Env := envH ty noG lks [oCmS] [] [] []

theorem enBor_ok : EnvOK Tryz.prog enBor := by
  refine envH_ok lks_ok ty_ok ?_ ?_
  · simp only [List.forall_mem_cons]
    exact ⟨okCmS, by simp⟩
  · simp

theorem evBor (a : Beat) (b : Beat) : (runF enBor false Tryz.f81 [.agg (eBeat a), .agg (eBeat b)]).val =
  Option.bind (unenc encCmS [(vS a.session), (vS b.session)]) fun (z : ByteArray × ByteArray) => bif F.cmpS z.fst z.snd != (0 : Int) then some ((vI (F.cmpS z.fst z.snd)),
  []) else bif decide (a.no < b.no) then some ((vI (-1 : Int)), []) else bif decide (b.no < a.no) then some ((vI (1 : Int)), []) else some ((vI (0 : Int)), []) := by kernel_rfl

def encBor1 (a : Beat) (b : Beat) : List AV := [.agg (eBeat a), .agg (eBeat b)]

def encBor (a : Beat × Beat) : List AV := encBor1 a.1 a.2

theorem encBor_inj (a a' : Beat × Beat) (h : encBor a = encBor a') : a = a' := by
  simp only [encBor, encBor1] at h
  try simp [strs_inj, ints_inj, bools_inj, u8s_inj, eEnts_inj, eEnt_iff, eLsts_inj, eLst_iff, eSegs_inj, eSeg_iff, eRots_inj, eRot_iff, eBeats_inj, eBeat_iff, eSpans_inj, eSpan_iff, eHoles_inj, eHole_iff] at h
  grind

theorem unBor (a : Beat) (b : Beat) : unenc encBor ([AV.agg [(vS a.session), (vI a.no), (vI a.time), (vI a.state), (vI a.rate)], AV.agg [(vS b.session), (vI b.no), (vI b.time), (vI b.state), (vI b.rate)]]) = some (a, b) := unenc_of encBor_inj (a, b) rfl

theorem unBorw (a_session : ByteArray) (a_no : Int) (a_time : Int) (a_state : Int) (a_rate : Int) (b_session : ByteArray) (b_no : Int) (b_time : Int) (b_state : Int) (b_rate : Int) : unenc encBor ([AV.agg [(vS a_session), (vI a_no), (vI a_time), (vI a_state), (vI a_rate)], AV.agg [(vS b_session), (vI b_no), (vI b_time), (vI b_state), (vI b_rate)]]) = some ((Beat.mk a_session a_no a_time a_state a_rate), (Beat.mk b_session b_no b_time b_state b_rate)) := unenc_of encBor_inj ((Beat.mk a_session a_no a_time a_state a_rate), (Beat.mk b_session b_no b_time b_state b_rate)) rfl

def resBor1 (a : Beat) (b : Beat) : AV × Heap := (vI (F.border a b), [])

def preBor1 (a : Beat) (b : Beat) : Bool := true

noncomputable def oBor : Orc := orc 81 true encBor (fun a => preBor1 a.1 a.2) fun a => resBor1 a.1 a.2

theorem okBor : OrcOK Tryz.prog noG oBor := by
  refine mk_ok Tryz.f81 (keep := false) (by kernel_rfl) (by kernel_rfl) enBor_ok mixed (no_loops (by kernel_rfl)) (by first | exact fun _ _ => ⟨rfl, rfl⟩ | (intro h; cases h)) ?_
  rintro ⟨a, b⟩ hpre hok
  show (runF enBor false _ (encBor1 _ _)).val = some (resBor1 _ _)
  unfold encBor1 resBor1
  rw [evBor]
  simp only [unCmS, preCmS1, etaEnt, etaLst, etaSeg, etaRot, etaBeat, etaSpan, etaHole, Option.bind_some, List.length_map, unStrs, unInts, unBools, unU8s, unEnts, unLsts, unSegs, unRots, unBeats, unSpans, unHoles, F.lt, F.le, cond_true, cond_false, Bool.and_true, Bool.true_and, F.border]
  cases F.cmpS a.session b.session != 0 <;> cases decide (a.no < b.no) <;> cases decide (b.no < a.no) <;> rfl

def stChb (l : List Beat) (k : Nat) : St := ⟨[(11, vI k), (10, vI l.length), (9, .sl (l.map eBeat)), (0, .sl (l.map eBeat))], []⟩

def stChb1 (a : (List Beat) × Nat) : St := stChb a.1 a.2

theorem stChb_inj (a a' : (List Beat) × Nat) (h : stChb1 a = stChb1 a') : a = a' := by
  simp only [stChb1, stChb] at h
  try simp [strs_inj, ints_inj, bools_inj, u8s_inj, eEnts_inj, eEnt_iff, eLsts_inj, eLst_iff, eSegs_inj, eSeg_iff, eRots_inj, eRot_iff, eBeats_inj, eBeat_iff, eSpans_inj, eSpan_iff, eHoles_inj, eHole_iff] at h
  grind

theorem unstChb (l : List Beat) (k : Nat) : unenc stChb1 (St.mk [(11, (vI (↑k : Int))), (10, (vI (↑(List.length l) : Int))), (9, AV.sl (List.map eBeat l)), (0, AV.sl (List.map eBeat l))] []) = some (l, k) := unenc_of stChb_inj (l, k) rfl

theorem unstChb0 (l : List Beat)  : unenc stChb1 (St.mk [(11, (vI (0 : Int))), (10, (vI (↑(List.length l) : Int))), (9, AV.sl (List.map eBeat l)), (0, AV.sl (List.map eBeat l))] []) = some (l, 0) := unenc_of stChb_inj (l, 0) rfl

def outChb (l : List Beat) (k : Nat) : T (Ex × St) := .ifB (decide (F.chkB (F.prev l k) (l.drop k) = 0)) (.ret (.exit 0, ⟨[], []⟩)) (.ret (.ret, ⟨[(2, vI (F.chkB (F.prev l k) (l.drop k)))], []⟩))

noncomputable def prlChb (l : List Beat) (k : Nat) : Bool := decide (l.length ≤ 9223372036854775807) && decide (k ≤ l.length) && F.prevOK l k

noncomputable def lpChb : Nat × (St → T (Ex × St)) := (4, lpo [11, 10, 9, 0] [] stChb1 (fun a => prlChb a.1 a.2) fun a => outChb a.1 a.2)

noncomputable def enChb : Env := envH ty noG lks [oName, oOut, oBor] [] [] [lpChb]

theorem enChb_ok : EnvOK Tryz.prog enChb := by
  refine envH_ok lks_ok ty_ok ?_ ?_
  · simp only [List.forall_mem_cons]
    exact ⟨okName, okOut, okBor, by simp⟩
  · simp

theorem chb_step {E : Env} {x : Code} {n e r : List Nat × List Nat} {l : List Beat} {st : Nat → St} (hs : ∀ k, closedB (st k) = true)
    (hend : ((exec E x (st l.length)).bind (lessX n e r)).val = some (.exit 0, ⟨[], []⟩))
    (h0 : ∀ y, l[0]? = some y → ((exec E x (st 0)).bind (lessX n e r)).val = bif F.beatF1 y != 0 then some (.ret, ⟨[(2, vI (F.beatF1 y))], []⟩) else some (.normal, st 1))
    (h1 : ∀ j o y, l[j]? = some o → l[j + 1]? = some y → F.beatF1 o = 0 → ((exec E x (st (j + 1))).bind (lessX n e r)).val =
      bif F.beatF1 y != 0 then some (.ret, ⟨[(2, vI (F.beatF1 y))], []⟩) else bif F.beatF2 o y != 0 then some (.ret, ⟨[(2, vI (F.beatF2 o y))], []⟩) else some (.normal, st (j + 2)))
    (k : Nat) (hp : l.length ≤ 9223372036854775807 ∧ k ≤ l.length ∧ F.prevOK l k = true) : ∀ ex s', (outChb l k).val = some (ex, s') → LoopOK E x (st k) ex s' := by
  refine loop_gen (st := st) (out := outChb l) (I := fun k => k ≤ l.length ∧ ∀ o, F.prev l k = some o → F.beatF1 o = 0) (n := n) (e := e) (r := r) (fun k => l.length - k) ?_ k ?_
  · rintro k ⟨hk, hpv⟩
    by_cases hlt : k < l.length
    · have hy : l[k]? = some l[k] := List.getElem?_eq_getElem hlt
      have hd : l.drop k = l[k] :: l.drop (k + 1) := List.drop_eq_getElem_cons hlt
      generalize l[k] = y at hy hd
      have hpn : F.prev l (k + 1) = some y := hy
      simp only [outChb, hd, F.chkB]
      cases k with
      | zero =>
        have := h0 y hy
        cases hf : F.beatF1 y != 0
        · right
          simp only [hf, cond_false] at this ⊢
          exact ⟨1, this, hs _, ⟨hlt, fun o ho => by have : some y = some o := hpn.symm.trans ho; cases this; simpa using hf⟩, by omega, by simp only [F.prev, hy]; rfl⟩
        · left
          simp only [hf, cond_true] at this ⊢
          have hne : F.beatF1 y ≠ 0 := by simpa using hf
          exact ⟨_, this, by simp [T.val, hne], by simp, rfl⟩
      | succ j =>
        have ho : l[j]? = some l[j] := List.getElem?_eq_getElem (by omega)
        have hf0 := hpv _ ho
        have := h1 j _ y ho hy hf0
        simp only [F.prev, ho]
        cases hf : F.beatF1 y != 0
        · simp only [hf, cond_false] at this ⊢
          cases hg : F.beatF2 l[j] y != 0
          · right
            simp only [hg, cond_false] at this ⊢
            exact ⟨j + 2, this, hs _, ⟨hlt, fun o ho => by have : some y = some o := hpn.symm.trans ho; cases this; simpa using hf⟩, by omega, by simp only [hy]⟩
          · left
            simp only [hg, cond_true] at this ⊢
            have hne : F.beatF2 l[j] y ≠ 0 := by simpa using hg
            exact ⟨_, this, by simp [T.val, hne], by simp, rfl⟩
        · left
          simp only [hf, cond_true] at this ⊢
          have hne : F.beatF1 y ≠ 0 := by simpa using hf
          exact ⟨_, this, by simp [T.val, hne], by simp, rfl⟩
    · have : k = l.length := by omega
      subst this
      left
      exact ⟨_, hend, by simp [outChb, F.chkB, T.val], by simp, rfl⟩
  · refine ⟨hp.2.1, fun o ho => ?_⟩
    have := hp.2.2
    unfold F.prevOK at this
    rw [ho] at this
    simpa using this

theorem evChbL (l : List Beat) (k : Nat) : ((exec enChb (loopN Tryz.f44 0) (stChb l k)).bind (lessX ([11, 10, 9, 0], []) ([], []) ([2], []))).val =
  bif decide ((↑k : Int) < (↑(List.length l) : Int)) then Option.bind (unenc (List.map eBeat) (List.map eBeat l)) fun (z : List Beat) => bif decide (k < List.length z) then
  Option.bind (unenc encName [(vS (List.getD z k (Beat.mk (ByteArray.mk (Array.mk [])) (0 : Int) (0 : Int) (0 : Int) (0 : Int))).session)]) fun (z_1 : ByteArray) => bif
  !F.isName z_1 then some (Ex.ret, St.mk [(2, (vI (5 : Int)))] []) else Option.bind (unenc encOut [(vI (List.getD z k (Beat.mk (ByteArray.mk (Array.mk [])) (0 : Int) (0 :
  Int) (0 : Int) (0 : Int))).no), (vI (1 : Int)), (vI (3000 : Int))]) fun (z_2 : Int × Int × Int) => bif !F.out z_2.fst z_2.snd.fst z_2.snd.snd then Option.bind (unenc
  encOut [(vI (List.getD z k (Beat.mk (ByteArray.mk (Array.mk [])) (0 : Int) (0 : Int) (0 : Int) (0 : Int))).time), (vI (0 : Int)), (vI (1000000000000 : Int))]) fun (z_3 :
  Int × Int × Int) => bif bif F.out z_2.fst z_2.snd.fst z_2.snd.snd then true else F.out z_3.fst z_3.snd.fst z_3.snd.snd then some (Ex.ret, St.mk [(2, (vI (1 : Int)))] [])
  else Option.bind (unenc encOut [(vI (List.getD z k (Beat.mk (ByteArray.mk (Array.mk [])) (0 : Int) (0 : Int) (0 : Int) (0 : Int))).state), (vI (1 : Int)), (vI (5 : Int))])
  fun (z_4 : Int × Int × Int) => bif F.out z_4.fst z_4.snd.fst z_4.snd.snd then some (Ex.ret, St.mk [(2, (vI (4 : Int)))] []) else Option.bind (unenc encOut [(vI (List.getD
  z k (Beat.mk (ByteArray.mk (Array.mk [])) (0 : Int) (0 : Int) (0 : Int) (0 : Int))).rate), (vI (0 : Int)), (vI (1000000000 : Int))]) fun (z_5 : Int × Int × Int) => bif
  F.out z_5.fst z_5.snd.fst z_5.snd.snd then some (Ex.ret, St.mk [(2, (vI (1 : Int)))] []) else bif bif (List.getD z k (Beat.mk (ByteArray.mk (Array.mk [])) (0 : Int) (0 :
  Int) (0 : Int) (0 : Int))).rate != (0 : Int) then (List.getD z k (Beat.mk (ByteArray.mk (Array.mk [])) (0 : Int) (0 : Int) (0 : Int) (0 : Int))).state != (2 : Int) else
  false then some (Ex.ret, St.mk [(2, (vI (3 : Int)))] []) else bif (↑k : Int) == (0 : Int) then some (Ex.normal, St.mk [(11, (vI (IntKind.wrap IntKind.i64 ((↑k : Int) + (1
  : Int))))), (10, (vI (↑(List.length l) : Int))), (9, AV.sl (List.map eBeat l)), (0, AV.sl (List.map eBeat l))] []) else Option.bind (idx (IntKind.wrap IntKind.i64 ((↑k :
  Int) - (1 : Int)))) fun (z_6 : Nat) => Option.bind (unenc (List.map eBeat) (List.map eBeat l)) fun (z_7 : List Beat) => bif decide (z_6 < List.length z_7) then Option.bind
  (unenc encBor [AV.agg [(vS (List.getD z_7 z_6 (Beat.mk (ByteArray.mk (Array.mk [])) (0 : Int) (0 : Int) (0 : Int) (0 : Int))).session), (vI (List.getD z_7 z_6 (Beat.mk
  (ByteArray.mk (Array.mk [])) (0 : Int) (0 : Int) (0 : Int) (0 : Int))).no), (vI (List.getD z_7 z_6 (Beat.mk (ByteArray.mk (Array.mk [])) (0 : Int) (0 : Int) (0 : Int) (0 :
  Int))).time), (vI (List.getD z_7 z_6 (Beat.mk (ByteArray.mk (Array.mk [])) (0 : Int) (0 : Int) (0 : Int) (0 : Int))).state), (vI (List.getD z_7 z_6 (Beat.mk (ByteArray.mk
  (Array.mk [])) (0 : Int) (0 : Int) (0 : Int) (0 : Int))).rate)], AV.agg [(vS (List.getD z k (Beat.mk (ByteArray.mk (Array.mk [])) (0 : Int) (0 : Int) (0 : Int) (0 :
  Int))).session), (vI (List.getD z k (Beat.mk (ByteArray.mk (Array.mk [])) (0 : Int) (0 : Int) (0 : Int) (0 : Int))).no), (vI (List.getD z k (Beat.mk (ByteArray.mk
  (Array.mk [])) (0 : Int) (0 : Int) (0 : Int) (0 : Int))).time), (vI (List.getD z k (Beat.mk (ByteArray.mk (Array.mk [])) (0 : Int) (0 : Int) (0 : Int) (0 : Int))).state),
  (vI (List.getD z k (Beat.mk (ByteArray.mk (Array.mk [])) (0 : Int) (0 : Int) (0 : Int) (0 : Int))).rate)]]) fun (z_8 : Beat × Beat) => bif bif decide ((0 : Int) ≤ F.border
  z_8.fst z_8.snd) then true else bif ByteArray.toList (List.getD z_7 z_6 (Beat.mk (ByteArray.mk (Array.mk [])) (0 : Int) (0 : Int) (0 : Int) (0 : Int))).session ==
  ByteArray.toList (List.getD z k (Beat.mk (ByteArray.mk (Array.mk [])) (0 : Int) (0 : Int) (0 : Int) (0 : Int))).session then decide ((List.getD z k (Beat.mk (ByteArray.mk
  (Array.mk [])) (0 : Int) (0 : Int) (0 : Int) (0 : Int))).time < (List.getD z_7 z_6 (Beat.mk (ByteArray.mk (Array.mk [])) (0 : Int) (0 : Int) (0 : Int) (0 : Int))).time)
  else false then some (Ex.ret, St.mk [(2, (vI (8 : Int)))] []) else bif bif ByteArray.toList (List.getD z_7 z_6 (Beat.mk (ByteArray.mk (Array.mk [])) (0 : Int) (0 : Int) (0
  : Int) (0 : Int))).session == ByteArray.toList (List.getD z k (Beat.mk (ByteArray.mk (Array.mk [])) (0 : Int) (0 : Int) (0 : Int) (0 : Int))).session then (List.getD z_7
  z_6 (Beat.mk (ByteArray.mk (Array.mk [])) (0 : Int) (0 : Int) (0 : Int) (0 : Int))).state == (5 : Int) else false then some (Ex.ret, St.mk [(2, (vI (11 : Int)))] []) else
  some (Ex.normal, St.mk [(11, (vI (IntKind.wrap IntKind.i64 ((↑k : Int) + (1 : Int))))), (10, (vI (↑(List.length l) : Int))), (9, AV.sl (List.map eBeat l)), (0, AV.sl
  (List.map eBeat l))] []) else none else some (Ex.ret, St.mk [(2, (vI (1 : Int)))] []) else none else some (Ex.exit (0 : Nat), St.mk [] []) := by kernel_rfl

theorem lpChb_ok (l : List Beat) (k : Nat) (hp : prlChb l k = true) : ∀ ex s', (outChb l k).val = some (ex, s') → LoopOK enChb (loopN Tryz.f44 0) (stChb l k) ex s' := by
  simp only [prlChb, Bool.and_eq_true, decide_eq_true_eq] at hp
  have hl := hp.1.1
  refine chb_step (st := stChb l) (fun _ => rfl) (n := ([11, 10, 9, 0], [])) (e := ([], [])) (r := ([2], [])) ?_ ?_ ?_ k ⟨hp.1.1, hp.1.2, hp.2⟩
  · rw [evChbL]; simp
  · intro y hy
    have hlt := lt_at hy
    rw [evChbL]
    simp only [unName, unOut, unBor, unBorw, preName1, preOut1, preBor1, unstChb, unstChb0, prlChb, outChb, etaEnt, etaLst, etaSeg, etaRot, etaBeat, etaSpan, etaHole, Option.bind_some, List.length_map, unStrs, unInts, unBools, unU8s, unEnts, unLsts, unSegs, unRots, unBeats, unSpans, unHoles, F.lt, F.le, cond_true, cond_false, Bool.and_true, Bool.true_and, cast_lt hlt, decide_eq_true hlt, next_at hlt hl, getD_at hy, stChb, F.beatF1, Bool.not_not]
    generalize F.isName y.session = a1
    generalize F.out y.no 1 3000 = a2
    generalize F.out y.time 0 1000000000000 = a3
    generalize F.out y.state 1 5 = a4
    generalize F.out y.rate 0 1000000000 = a5
    generalize (y.rate != 0) = a6
    generalize (y.state != 2) = a7
    cases a1
    · rfl
    cases a2
    · cases a3
      · cases a4
        · cases a5
          · cases a6 <;> cases a7 <;> rfl
          · rfl
        · rfl
      · rfl
    · rfl
  · intro j o y ho hy hf
    have hlt := lt_at hy
    have hlt' := lt_at ho
    have hz : (((j + 1 : Nat) : Int) == 0) = false := by rw [beq_eq_false_iff_ne]; omega
    rw [evChbL]
    simp only [unName, unOut, unBor, unBorw, preName1, preOut1, preBor1, unstChb, unstChb0, prlChb, outChb, etaEnt, etaLst, etaSeg, etaRot, etaBeat, etaSpan, etaHole, Option.bind_some, List.length_map, unStrs, unInts, unBools, unU8s, unEnts, unLsts, unSegs, unRots, unBeats, unSpans, unHoles, F.lt, F.le, cond_true, cond_false, Bool.and_true, Bool.true_and, cast_lt hlt, decide_eq_true hlt, decide_eq_true hlt', next_at hlt hl, getD_at hy, getD_at ho, stChb, hz, idx_sub (by omega : j + 1 ≤ 9223372036854775807), F.beatF1, F.beatF2, F.seq, Bool.not_not]
    generalize F.isName y.session = a1
    generalize F.out y.time 0 1000000000000 = a3
    generalize F.out y.state 1 5 = a4
    generalize F.out y.rate 0 1000000000 = a5
    generalize (y.rate != 0) = a6
    generalize (y.state != 2) = a7
    generalize (o.session.toList == y.session.toList) = a9
    generalize decide (y.time < o.time) = a10
    generalize (o.state == 5) = a11
    generalize F.out y.no 1 3000 = a2
    generalize decide (0 ≤ F.border o y) = a8
    cases a1
    · rfl
    cases a2
    · cases a3
      · cases a4
        · cases a5
          · cases a6 <;> cases a7 <;> first | rfl | (cases a8 <;> first | rfl | (cases a9 <;> first | rfl | (cases a10 <;> first | rfl | (cases a11 <;> rfl))))
          · rfl
        · rfl
      · rfl
    · rfl

theorem evChb (l : List Beat) : (runF enChb false Tryz.f44 [.sl (l.map eBeat)]).val =
  bif decide ((3000 : Int) < (↑(List.length (List.map eBeat l)) : Int)) then some ((vI (2 : Int)), []) else Option.bind (unenc stChb1 (St.mk [(11, (vI (0 : Int))), (10, (vI
  (↑(List.length (List.map eBeat l)) : Int))), (9, AV.sl (List.map eBeat l)), (0, AV.sl (List.map eBeat l))] [])) fun (z : List Beat × Nat) => bif decide (List.length z.fst
  ≤ (9223372036854775807 : Nat)) && decide (z.snd ≤ List.length z.fst) && F.prevOK z.fst z.snd && true then bif decide (F.chkB (F.prev z.fst z.snd) (List.drop z.snd z.fst) =
  (0 : Int)) then some ((vI (0 : Int)), []) else some ((vI (F.chkB (F.prev z.fst z.snd) (List.drop z.snd z.fst))), []) else none := by kernel_rfl

def encChb1 (l : List Beat) : List AV := [.sl (l.map eBeat)]

def encChb (a : (List Beat)) : List AV := encChb1 a

theorem encChb_inj (a a' : (List Beat)) (h : encChb a = encChb a') : a = a' := by
  simp only [encChb, encChb1] at h
  try simp [strs_inj, ints_inj, bools_inj, u8s_inj, eEnts_inj, eEnt_iff, eLsts_inj, eLst_iff, eSegs_inj, eSeg_iff, eRots_inj, eRot_iff, eBeats_inj, eBeat_iff, eSpans_inj, eSpan_iff, eHoles_inj, eHole_iff] at h
  grind

theorem unChb (l : List Beat) : unenc encChb ([AV.sl (List.map eBeat l)]) = some (l) := unenc_of encChb_inj (l) rfl

def resChb1 (l : List Beat) : AV × Heap := (vI (F.checkB l), [])

def preChb1 (l : List Beat) : Bool := true

noncomputable def oChb : Orc := orc 44 true encChb (fun a => preChb1 a) fun a => resChb1 a

theorem okChb : OrcOK Tryz.prog noG oChb := by
  refine mk_ok Tryz.f44 (keep := false) (by kernel_rfl) (by kernel_rfl) enChb_ok mixed (one_loop (x0 := loopN Tryz.f44 0) (by kernel_rfl) (lpo_ok ?_)) (by first | exact fun _ _ => ⟨rfl, rfl⟩ | (intro h; cases h)) ?_
  · rintro ⟨l, k⟩ hp
    exact lpChb_ok l k hp
  rintro l hpre hok
  show (runF enChb false _ (encChb1 _)).val = some (resChb1 _)
  unfold encChb1 resChb1
  rw [evChb]
  have hx : l.length ≤ 9223372036854775807 := by simpa using (okA_sl (hok _ (List.mem_cons_self ..))).1
  have hz : F.prevOK l 0 = true := rfl
  have hp : F.prev l 0 = none := rfl
  simp only [unName, unOut, unBor, unBorw, preName1, preOut1, preBor1, unstChb, unstChb0, prlChb, outChb, etaEnt, etaLst, etaSeg, etaRot, etaBeat, etaSpan, etaHole, Option.bind_some, List.length_map, unStrs, unInts, unBools, unU8s, unEnts, unLsts, unSegs, unRots, unBeats, unSpans, unHoles, F.lt, F.le, cond_true, cond_false, Bool.and_true, Bool.true_and, hx, hz, hp, List.drop_zero, Nat.zero_le, decide_true, F.checkB]
  have e : decide ((3000 : Int) < l.length) = decide (3000 < l.length) := by by_cases h : 3000 < l.length <;> simp [h] <;> omega
  rw [e]
  cases decide (3000 < l.length)
  · simp only [cond_false]
    by_cases h2 : F.chkB none l = 0 <;> simp [h2]
  · rfl

def stEqHo (xs : List Hole) (ys : List Hole) (k : Nat) : St := ⟨[(13, vI k), (12, vI xs.length), (1, .sl (ys.map eHole)), (0, .sl (xs.map eHole))], []⟩

def stEqHo1 (a : (List Hole) × (List Hole) × Nat) : St := stEqHo a.1 a.2.1 a.2.2

theorem stEqHo_inj (a a' : (List Hole) × (List Hole) × Nat) (h : stEqHo1 a = stEqHo1 a') : a = a' := by
  simp only [stEqHo1, stEqHo] at h
  try simp [strs_inj, ints_inj, bools_inj, u8s_inj, eEnts_inj, eEnt_iff, eLsts_inj, eLst_iff, eSegs_inj, eSeg_iff, eRots_inj, eRot_iff, eBeats_inj, eBeat_iff, eSpans_inj, eSpan_iff, eHoles_inj, eHole_iff] at h
  grind

theorem unstEqHo (xs : List Hole) (ys : List Hole) (k : Nat) : unenc stEqHo1 (St.mk [(13, (vI (↑k : Int))), (12, (vI (↑(List.length xs) : Int))), (1, AV.sl (List.map eHole ys)), (0, AV.sl (List.map eHole xs))] []) = some (xs, ys, k) := unenc_of stEqHo_inj (xs, ys, k) rfl

theorem unstEqHo0 (xs : List Hole) (ys : List Hole)  : unenc stEqHo1 (St.mk [(13, (vI (0 : Int))), (12, (vI (↑(List.length xs) : Int))), (1, AV.sl (List.map eHole ys)), (0, AV.sl (List.map eHole xs))] []) = some (xs, ys, 0) := unenc_of stEqHo_inj (xs, ys, 0) rfl

def outEqHo (xs : List Hole) (ys : List Hole) (k : Nat) : T (Ex × St) := .ifB (((xs.zip ys).drop k).all fun p => (eqHole) p.1 p.2) (.ret (.exit 0, ⟨[], []⟩)) (.ret (.ret, ⟨[(4, vB false)], []⟩))

noncomputable def prlEqHo (xs : List Hole) (ys : List Hole) (k : Nat) : Bool := decide (xs.length ≤ 9223372036854775807) && decide (k ≤ xs.length) && decide (xs.length = ys.length)

noncomputable def lpEqHo : Nat × (St → T (Ex × St)) := (4, lpo [13, 12, 1, 0] [] stEqHo1 (fun a => prlEqHo a.1 a.2.1 a.2.2) fun a => outEqHo a.1 a.2.1 a.2.2)

noncomputable def enEqHo : Env := envH ty noG lks [] [] [] [lpEqHo]

theorem enEqHo_ok : EnvOK Tryz.prog enEqHo := by
  refine envH_ok lks_ok ty_ok ?_ ?_
  · simp
  · simp

theorem evEqHoL (xs : List Hole) (ys : List Hole) (k : Nat) : ((exec enEqHo (loopN Tryz.f28 0) (stEqHo xs ys k)).bind (lessX ([13, 12, 1, 0], []) ([], []) ([4], []))).val =
  bif decide ((↑k : Int) < (↑(List.length xs) : Int)) then Option.bind (unenc (List.map eHole) (List.map eHole xs)) fun (z : List Hole) => bif decide (k < List.length z)
  then Option.bind (unenc (List.map eHole) (List.map eHole ys)) fun (z_1 : List Hole) => bif decide (k < List.length z_1) then bif !(ByteArray.toList (List.getD z k (Hole.mk
  (ByteArray.mk (Array.mk [])) (0 : Int) (0 : Int))).session == ByteArray.toList (List.getD z_1 k (Hole.mk (ByteArray.mk (Array.mk [])) (0 : Int) (0 : Int))).session &&
  ((List.getD z k (Hole.mk (ByteArray.mk (Array.mk [])) (0 : Int) (0 : Int))).fr == (List.getD z_1 k (Hole.mk (ByteArray.mk (Array.mk [])) (0 : Int) (0 : Int))).fr &&
  ((List.getD z k (Hole.mk (ByteArray.mk (Array.mk [])) (0 : Int) (0 : Int))).to == (List.getD z_1 k (Hole.mk (ByteArray.mk (Array.mk [])) (0 : Int) (0 : Int))).to &&
  true))) then some (Ex.ret, St.mk [(4, (vB false))] []) else some (Ex.normal, St.mk [(13, (vI (IntKind.wrap IntKind.i64 ((↑k : Int) + (1 : Int))))), (12, (vI (↑(List.length
  xs) : Int))), (1, AV.sl (List.map eHole ys)), (0, AV.sl (List.map eHole xs))] []) else none else none else some (Ex.exit (0 : Nat), St.mk [] []) := by kernel_rfl

theorem lpEqHo_ok (xs : List Hole) (ys : List Hole) (k : Nat) (hp : prlEqHo xs ys k = true) : ∀ ex s', (outEqHo xs ys k).val = some (ex, s') → LoopOK enEqHo (loopN Tryz.f28 0) (stEqHo xs ys k) ex s' := by
  simp only [prlEqHo, Bool.and_eq_true, decide_eq_true_eq] at hp
  obtain ⟨⟨h1, h2⟩, h3⟩ := hp
  have hz : (xs.zip ys).length = xs.length := by rw [List.length_zip]; omega
  refine loop_all (xs := xs.zip ys) (st := stEqHo xs ys) (p := fun p => (eqHole) p.1 p.2) (n := ([13, 12, 1, 0], [])) (e := ([], [])) (r := ([4], [])) ?_ ⟨by simp, rfl⟩ ⟨by simp, rfl⟩ (fun _ => rfl) ?_ k (by omega)
  · rw [hz]; rw [evEqHoL]; simp
  · intro k y hy
    rw [List.getElem?_zip_eq_some] at hy
    obtain ⟨ha, hb⟩ := hy
    have hlt := lt_at ha
    have hlt' := lt_at hb
    rw [evEqHoL]
    simp only [unstEqHo, unstEqHo0, prlEqHo, outEqHo, etaEnt, etaLst, etaSeg, etaRot, etaBeat, etaSpan, etaHole, Option.bind_some, List.length_map, unStrs, unInts, unBools, unU8s, unEnts, unLsts, unSegs, unRots, unBeats, unSpans, unHoles, F.lt, F.le, cond_true, cond_false, Bool.and_true, Bool.true_and, cast_lt hlt, decide_eq_true hlt, decide_eq_true hlt', next_at hlt h1, getD_at ha, getD_at hb, stEqHo, eqHole, bne]
    first | (generalize (_ && _) = b0; cases b0 <;> rfl) | (generalize (_ == _) = b0; cases b0 <;> rfl)

theorem evEqHo (xs : List Hole) (ys : List Hole) : (runF enEqHo false Tryz.f28 [.sl (xs.map eHole), .sl (ys.map eHole)]).val =
  bif (↑(List.length (List.map eHole xs)) : Int) != (↑(List.length (List.map eHole ys)) : Int) then some ((vB false), []) else Option.bind (unenc stEqHo1 (St.mk [(13, (vI (0
  : Int))), (12, (vI (↑(List.length (List.map eHole xs)) : Int))), (1, AV.sl (List.map eHole ys)), (0, AV.sl (List.map eHole xs))] [])) fun (z : List Hole × List Hole × Nat)
  => bif decide (List.length z.fst ≤ (9223372036854775807 : Nat)) && decide (z.snd.snd ≤ List.length z.fst) && decide (List.length z.fst = List.length z.snd.fst) && true
  then bif List.all (List.drop z.snd.snd (List.zip z.fst z.snd.fst)) fun (p : Hole × Hole) => eqHole p.fst p.snd then some ((vB true), []) else some ((vB false), []) else
  none := by kernel_rfl

def encEqHo1 (xs : List Hole) (ys : List Hole) : List AV := [.sl (xs.map eHole), .sl (ys.map eHole)]

def encEqHo (a : (List Hole) × (List Hole)) : List AV := encEqHo1 a.1 a.2

theorem encEqHo_inj (a a' : (List Hole) × (List Hole)) (h : encEqHo a = encEqHo a') : a = a' := by
  simp only [encEqHo, encEqHo1] at h
  try simp [strs_inj, ints_inj, bools_inj, u8s_inj, eEnts_inj, eEnt_iff, eLsts_inj, eLst_iff, eSegs_inj, eSeg_iff, eRots_inj, eRot_iff, eBeats_inj, eBeat_iff, eSpans_inj, eSpan_iff, eHoles_inj, eHole_iff] at h
  grind

theorem unEqHo (xs : List Hole) (ys : List Hole) : unenc encEqHo ([AV.sl (List.map eHole xs), AV.sl (List.map eHole ys)]) = some (xs, ys) := unenc_of encEqHo_inj (xs, ys) rfl

def resEqHo1 (xs : List Hole) (ys : List Hole) : AV × Heap := (vB (F.eqL (eqHole) xs ys), [])

def preEqHo1 (xs : List Hole) (ys : List Hole) : Bool := true

noncomputable def oEqHo : Orc := orc 28 true encEqHo (fun a => preEqHo1 a.1 a.2) fun a => resEqHo1 a.1 a.2

theorem okEqHo : OrcOK Tryz.prog noG oEqHo := by
  refine mk_ok Tryz.f28 (keep := false) (by kernel_rfl) (by kernel_rfl) enEqHo_ok mixed (one_loop (x0 := loopN Tryz.f28 0) (by kernel_rfl) (lpo_ok ?_)) (by first | exact fun _ _ => ⟨rfl, rfl⟩ | (intro h; cases h)) ?_
  · rintro ⟨xs, ys, k⟩ hp
    exact lpEqHo_ok xs ys k hp
  rintro ⟨xs, ys⟩ hpre hok
  show (runF enEqHo false _ (encEqHo1 _ _)).val = some (resEqHo1 _ _)
  unfold encEqHo1 resEqHo1
  rw [evEqHo]
  have hx : xs.length ≤ 9223372036854775807 := by simpa using (okA_sl (hok _ (List.mem_cons_self ..))).1
  simp only [unstEqHo, unstEqHo0, prlEqHo, outEqHo, etaEnt, etaLst, etaSeg, etaRot, etaBeat, etaSpan, etaHole, Option.bind_some, List.length_map, unStrs, unInts, unBools, unU8s, unEnts, unLsts, unSegs, unRots, unBeats, unSpans, unHoles, F.lt, F.le, cond_true, cond_false, Bool.and_true, Bool.true_and, hx, List.drop_zero, Nat.zero_le, decide_true, len_eq, bne, F.eqL]
  cases h : decide (xs.length = ys.length)
  · rfl
  · simp only [Bool.not_true, cond_false, cond_true, Bool.true_and]
    cases ((xs.zip ys).all fun p => (eqHole) p.1 p.2) <;> rfl


def stMis (l : List Beat) (n : Int) (acc : List Hole) (k : Nat) : St := ⟨[(16, vI k), (15, vI l.length), (14, .sl (l.map eBeat)), (6, vI n), (5, .own 5), (0, .sl (l.map eBeat))], [(5, ⟨false, 68, 3, acc.map eHole⟩)]⟩

def stMis1 (a : (List Beat) × Int × (List Hole) × Nat) : St := stMis a.1 a.2.1 a.2.2.1 a.2.2.2

theorem stMis_inj (a a' : (List Beat) × Int × (List Hole) × Nat) (h : stMis1 a = stMis1 a') : a = a' := by
  simp only [stMis1, stMis] at h
  try simp [strs_inj, ints_inj, bools_inj, u8s_inj, eEnts_inj, eEnt_iff, eLsts_inj, eLst_iff, eSegs_inj, eSeg_iff, eRots_inj, eRot_iff, eBeats_inj, eBeat_iff, eSpans_inj, eSpan_iff, eHoles_inj, eHole_iff] at h
  grind

theorem unstMis (l : List Beat) (n : Int) (acc : List Hole) (k : Nat) : unenc stMis1 (St.mk [(16, (vI (↑k : Int))), (15, (vI (↑(List.length l) : Int))), (14, AV.sl (List.map eBeat l)), (6, (vI n)), (5, .own 5), (0, AV.sl (List.map eBeat l))] [(5, Blk.mk
  false 68 3 (List.map eHole acc))]) = some (l, n, acc, k) := unenc_of stMis_inj (l, n, acc, k) rfl

theorem unstMis0 (l : List Beat) (n : Int)  : unenc stMis1 (St.mk [(16, (vI (0 : Int))), (15, (vI (↑(List.length l) : Int))), (14, AV.sl (List.map eBeat l)), (6, (vI n)), (5, .own 5), (0, AV.sl (List.map eBeat l))] [(5, Blk.mk
  false 68 3 [])]) = some (l, n, [], 0) := unenc_of stMis_inj (l, n, [], 0) rfl

def outMis (l : List Beat) (n : Int) (acc : List Hole) (k : Nat) : T (Ex × St) := .ret (.exit 0, ⟨[(5, .own 5)], [(5, ⟨false, 68, 3, (F.missL (F.prev l k) n acc (l.drop k)).map eHole⟩)]⟩)

noncomputable def prlMis (l : List Beat) (n : Int) (acc : List Hole) (k : Nat) : Bool := decide (l.length ≤ 3000) && decide (k ≤ l.length) && decide (acc.length ≤ k)

noncomputable def lpMis : Nat × (St → T (Ex × St)) := (7, lpo [16, 15, 14, 6, 5, 0] [5] stMis1 (fun a => prlMis a.1 a.2.1 a.2.2.1 a.2.2.2) fun a => outMis a.1 a.2.1 a.2.2.1 a.2.2.2)

noncomputable def enMis : Env := envH ty noG lks [oChb] [] [] [lpMis]

theorem enMis_ok : EnvOK Tryz.prog enMis := by
  refine envH_ok lks_ok ty_ok ?_ ?_
  · simp only [List.forall_mem_cons]
    exact ⟨okChb, by simp⟩
  · simp

theorem evMisL (l : List Beat) (n : Int) (acc : List Hole) (k : Nat) : ((exec enMis (loopN Tryz.f27 0) (stMis l n acc k)).bind (lessX ([16, 15, 14, 6, 5, 0], [5]) ([5], [5]) ([], []))).val =
  bif decide ((↑k : Int) < (↑(List.length l) : Int)) then Option.bind (unenc (List.map eBeat) (List.map eBeat l)) fun (z : List Beat) => bif decide (k < List.length z) then
  bif decide ((0 : Int) < (↑k : Int)) then Option.bind (idx (IntKind.wrap IntKind.i64 ((↑k : Int) - (1 : Int)))) fun (z_1 : Nat) => Option.bind (unenc (List.map eBeat)
  (List.map eBeat l)) fun (z_2 : List Beat) => bif decide (z_1 < List.length z_2) then bif bif decide ((0 : Int) < (↑k : Int)) then !ByteArray.toList (List.getD z_2 z_1
  (Beat.mk (ByteArray.mk (Array.mk [])) (0 : Int) (0 : Int) (0 : Int) (0 : Int))).session == ByteArray.toList (List.getD z k (Beat.mk (ByteArray.mk (Array.mk [])) (0 : Int)
  (0 : Int) (0 : Int) (0 : Int))).session else false then bif decide ((1 : Int) < (List.getD z k (Beat.mk (ByteArray.mk (Array.mk [])) (0 : Int) (0 : Int) (0 : Int) (0 :
  Int))).no) then bif Nat.ble ((List.length (List.map eHole acc) + (1 : Nat)) * (32 : Nat)) (140737488355328 : Nat) && true then some (Ex.normal, St.mk [(16, (vI
  (IntKind.wrap IntKind.i64 ((↑k : Int) + (1 : Int))))), (15, (vI (↑(List.length l) : Int))), (14, AV.sl (List.map eBeat l)), (6, (vI (IntKind.wrap IntKind.i64 ((List.getD z
  k (Beat.mk (ByteArray.mk (Array.mk [])) (0 : Int) (0 : Int) (0 : Int) (0 : Int))).no + (1 : Int))))), (5, .own 5), (0, AV.sl (List.map eBeat l))] [(5, Blk.mk false 68 3
  (List.map eHole acc ++ [[(vS (List.getD z k (Beat.mk (ByteArray.mk (Array.mk [])) (0 : Int) (0 : Int) (0 : Int) (0 : Int))).session), (vI (1 : Int)), (vI (List.getD z k
  (Beat.mk (ByteArray.mk (Array.mk [])) (0 : Int) (0 : Int) (0 : Int) (0 : Int))).no)]]))]) else none else some (Ex.normal, St.mk [(16, (vI (IntKind.wrap IntKind.i64 ((↑k :
  Int) + (1 : Int))))), (15, (vI (↑(List.length l) : Int))), (14, AV.sl (List.map eBeat l)), (6, (vI (IntKind.wrap IntKind.i64 ((List.getD z k (Beat.mk (ByteArray.mk
  (Array.mk [])) (0 : Int) (0 : Int) (0 : Int) (0 : Int))).no + (1 : Int))))), (5, .own 5), (0, AV.sl (List.map eBeat l))] [(5, Blk.mk false 68 3 (List.map eHole acc))])
  else bif decide (n < (List.getD z k (Beat.mk (ByteArray.mk (Array.mk [])) (0 : Int) (0 : Int) (0 : Int) (0 : Int))).no) then bif Nat.ble ((List.length (List.map eHole acc)
  + (1 : Nat)) * (32 : Nat)) (140737488355328 : Nat) && true then some (Ex.normal, St.mk [(16, (vI (IntKind.wrap IntKind.i64 ((↑k : Int) + (1 : Int))))), (15, (vI
  (↑(List.length l) : Int))), (14, AV.sl (List.map eBeat l)), (6, (vI (IntKind.wrap IntKind.i64 ((List.getD z k (Beat.mk (ByteArray.mk (Array.mk [])) (0 : Int) (0 : Int) (0
  : Int) (0 : Int))).no + (1 : Int))))), (5, .own 5), (0, AV.sl (List.map eBeat l))] [(5, Blk.mk false 68 3 (List.map eHole acc ++ [[(vS (List.getD z k (Beat.mk
  (ByteArray.mk (Array.mk [])) (0 : Int) (0 : Int) (0 : Int) (0 : Int))).session), (vI n), (vI (List.getD z k (Beat.mk (ByteArray.mk (Array.mk [])) (0 : Int) (0 : Int) (0 :
  Int) (0 : Int))).no)]]))]) else none else some (Ex.normal, St.mk [(16, (vI (IntKind.wrap IntKind.i64 ((↑k : Int) + (1 : Int))))), (15, (vI (↑(List.length l) : Int))), (14,
  AV.sl (List.map eBeat l)), (6, (vI (IntKind.wrap IntKind.i64 ((List.getD z k (Beat.mk (ByteArray.mk (Array.mk [])) (0 : Int) (0 : Int) (0 : Int) (0 : Int))).no + (1 :
  Int))))), (5, .own 5), (0, AV.sl (List.map eBeat l))] [(5, Blk.mk false 68 3 (List.map eHole acc))]) else none else bif decide ((0 : Int) < (↑k : Int)) then none else bif
  decide ((0 : Int) < (↑k : Int)) then none else bif decide ((0 : Int) < (↑k : Int)) then none else bif decide (n < (List.getD z k (Beat.mk (ByteArray.mk (Array.mk [])) (0 :
  Int) (0 : Int) (0 : Int) (0 : Int))).no) then bif Nat.ble ((List.length (List.map eHole acc) + (1 : Nat)) * (32 : Nat)) (140737488355328 : Nat) && true then some
  (Ex.normal, St.mk [(16, (vI (IntKind.wrap IntKind.i64 ((↑k : Int) + (1 : Int))))), (15, (vI (↑(List.length l) : Int))), (14, AV.sl (List.map eBeat l)), (6, (vI
  (IntKind.wrap IntKind.i64 ((List.getD z k (Beat.mk (ByteArray.mk (Array.mk [])) (0 : Int) (0 : Int) (0 : Int) (0 : Int))).no + (1 : Int))))), (5, .own 5), (0, AV.sl
  (List.map eBeat l))] [(5, Blk.mk false 68 3 (List.map eHole acc ++ [[(vS (List.getD z k (Beat.mk (ByteArray.mk (Array.mk [])) (0 : Int) (0 : Int) (0 : Int) (0 :
  Int))).session), (vI n), (vI (List.getD z k (Beat.mk (ByteArray.mk (Array.mk [])) (0 : Int) (0 : Int) (0 : Int) (0 : Int))).no)]]))]) else none else some (Ex.normal, St.mk
  [(16, (vI (IntKind.wrap IntKind.i64 ((↑k : Int) + (1 : Int))))), (15, (vI (↑(List.length l) : Int))), (14, AV.sl (List.map eBeat l)), (6, (vI (IntKind.wrap IntKind.i64
  ((List.getD z k (Beat.mk (ByteArray.mk (Array.mk [])) (0 : Int) (0 : Int) (0 : Int) (0 : Int))).no + (1 : Int))))), (5, .own 5), (0, AV.sl (List.map eBeat l))] [(5, Blk.mk
  false 68 3 (List.map eHole acc))]) else none else some (Ex.exit (0 : Nat), St.mk [(5, .own 5)] [(5, Blk.mk false 68 3 (List.map eHole acc))]) := by kernel_rfl

theorem lpMis_ok (l : List Beat) (n : Int) (acc : List Hole) (k : Nat) (hp : prlMis l n acc k = true) : ∀ ex s', (outMis l n acc k).val = some (ex, s') → LoopOK enMis (loopN Tryz.f27 0) (stMis l n acc k) ex s' := by
  simp only [prlMis, Bool.and_eq_true, decide_eq_true_eq] at hp
  obtain ⟨⟨h1, h2⟩, h3⟩ := hp
  refine loop_fold (xs := l) (st := fun a k => stMis l a.2.1 a.2.2 k) (f := F.missS) (fin := fun a => (.exit 0, ⟨[(5, .own 5)], [(5, ⟨false, 68, 3, a.2.2.map eHole⟩)]⟩)) (I := fun a k => a.1 = F.prev l k ∧ a.2.2.length ≤ k) (n := ([16, 15, 14, 6, 5, 0], [5])) (e := ([5], [5])) (r := ([], [])) ?_ (fun _ => ⟨by simp, rfl⟩) (fun _ _ => rfl) ?_ (F.prev l k, n, acc) k h2 ⟨rfl, h3⟩
  · rintro ⟨p, n, acc⟩ _
    rw [evMisL]; simp
  · rintro ⟨p, n, acc⟩ k y hy ⟨hp, hI⟩
    have hlt := lt_at hy
    simp only at hp hI
    subst hp
    have hroom : Nat.ble ((acc.length + 1) * 32) 140737488355328 = true := ble_t (by omega)
    refine ⟨?_, ?_⟩
    · cases k with
      | zero =>
        have hz : decide ((0 : Int) < ((0 : Nat) : Int)) = false := rfl
        rw [evMisL]
        simp only [unChb, preChb1, unstMis, unstMis0, prlMis, outMis, etaEnt, etaLst, etaSeg, etaRot, etaBeat, etaSpan, etaHole, Option.bind_some, List.length_map, unStrs, unInts, unBools, unU8s, unEnts, unLsts, unSegs, unRots, unBeats, unSpans, unHoles, F.lt, F.le, cond_true, cond_false, Bool.and_true, Bool.true_and, cast_lt hlt, decide_eq_true hlt, next_at hlt (by omega : l.length ≤ 9223372036854775807), getD_at hy, stMis, F.missS, F.nextB, F.prev, hroom, appWHoles, hz]
        by_cases h : n < y.no <;> simp only [h, decide_true, decide_false, cond_true, cond_false]
      | succ j =>
        have ho : l[j]? = some l[j] := List.getElem?_eq_getElem (by omega)
        have hz : decide ((0 : Int) < ((j + 1 : Nat) : Int)) = true := decide_eq_true (by omega)
        have hlt' : j < l.length := by omega
        rw [evMisL]
        simp only [unChb, preChb1, unstMis, unstMis0, prlMis, outMis, etaEnt, etaLst, etaSeg, etaRot, etaBeat, etaSpan, etaHole, Option.bind_some, List.length_map, unStrs, unInts, unBools, unU8s, unEnts, unLsts, unSegs, unRots, unBeats, unSpans, unHoles, F.lt, F.le, cond_true, cond_false, Bool.and_true, Bool.true_and, cast_lt hlt, decide_eq_true hlt, decide_eq_true hlt', next_at hlt (by omega : l.length ≤ 9223372036854775807), getD_at hy, getD_at ho, stMis, F.missS, F.nextB, F.prev, hroom, hz, ho, idx_sub (by omega : j + 1 ≤ 9223372036854775807), appWHoles]
        cases (l[j].session.toList == y.session.toList) <;> simp only [Bool.not_true, Bool.not_false, cond_true, cond_false]
        · cases decide (1 < y.no) <;> rfl
        · cases decide (n < y.no) <;> rfl
    · refine ⟨hy.symm, ?_⟩
      simp only [F.missS]
      cases F.lt (F.nextB (F.prev l k) n y) y.no
      · simp only [cond_false]; omega
      · simp only [cond_true, List.length_append, List.length_singleton]; omega

theorem evMis (l : List Beat) : (runF enMis false Tryz.f27 [.sl (l.map eBeat)]).val =
  Option.bind (unenc encChb [AV.sl (List.map eBeat l)]) fun (z : List Beat) => bif F.checkB z != (0 : Int) then some (AV.tup [AV.sl [], (vI (F.checkB z))], []) else
  Option.bind (unenc stMis1 (St.mk [(16, (vI (0 : Int))), (15, (vI (↑(List.length (List.map eBeat l)) : Int))), (14, AV.sl (List.map eBeat l)), (6, (vI (1 : Int))), (5, .own
  5), (0, AV.sl (List.map eBeat l))] [(5, Blk.mk false 68 3 [])])) fun (z : List Beat × Int × List Hole × Nat) => bif decide (List.length z.fst ≤ (3000 : Nat)) && decide
  (z.snd.snd.snd ≤ List.length z.fst) && decide (List.length z.snd.snd.fst ≤ z.snd.snd.snd) && true then some (AV.tup [AV.sl (List.map eHole (F.missL (F.prev z.fst
  z.snd.snd.snd) z.snd.fst z.snd.snd.fst (List.drop z.snd.snd.snd z.fst))), (vI (0 : Int))], []) else none := by kernel_rfl

def encMis1 (l : List Beat) : List AV := [.sl (l.map eBeat)]

def encMis (a : (List Beat)) : List AV := encMis1 a

theorem encMis_inj (a a' : (List Beat)) (h : encMis a = encMis a') : a = a' := by
  simp only [encMis, encMis1] at h
  try simp [strs_inj, ints_inj, bools_inj, u8s_inj, eEnts_inj, eEnt_iff, eLsts_inj, eLst_iff, eSegs_inj, eSeg_iff, eRots_inj, eRot_iff, eBeats_inj, eBeat_iff, eSpans_inj, eSpan_iff, eHoles_inj, eHole_iff] at h
  grind

theorem unMis (l : List Beat) : unenc encMis ([AV.sl (List.map eBeat l)]) = some (l) := unenc_of encMis_inj (l) rfl

def resMis1 (l : List Beat) : AV × Heap := (.tup [.sl ((F.missing l).1.map eHole), vI (F.missing l).2], [])

def preMis1 (l : List Beat) : Bool := true

noncomputable def oMis : Orc := orc 27 false encMis (fun a => preMis1 a) fun a => resMis1 a

theorem okMis : OrcOK Tryz.prog noG oMis := by
  refine mk_ok Tryz.f27 (keep := false) (by kernel_rfl) (by kernel_rfl) enMis_ok mixed (one_loop (x0 := loopN Tryz.f27 0) (by kernel_rfl) (lpo_ok ?_)) (by first | exact fun _ _ => ⟨rfl, rfl⟩ | (intro h; cases h)) ?_
  · rintro ⟨l, n, acc, k⟩ hp
    exact lpMis_ok l n acc k hp
  rintro l hpre hok
  show (runF enMis false _ (encMis1 _)).val = some (resMis1 _)
  unfold encMis1 resMis1
  rw [evMis]
  have hp : F.prev l 0 = none := rfl
  simp only [unChb, preChb1, unstMis, unstMis0, prlMis, outMis, etaEnt, etaLst, etaSeg, etaRot, etaBeat, etaSpan, etaHole, Option.bind_some, List.length_map, unStrs, unInts, unBools, unU8s, unEnts, unLsts, unSegs, unRots, unBeats, unSpans, unHoles, F.lt, F.le, cond_true, cond_false, Bool.and_true, Bool.true_and, List.drop_zero, Nat.zero_le, decide_true, F.missing, hp, List.length_nil, List.map_nil]
  cases h : F.checkB l != 0
  · have hl : decide (l.length ≤ 3000) = true := decide_eq_true (F.checkB_len (by simpa using h))
    have h0 : F.checkB l = 0 := by simpa using h
    simp only [hl, cond_false, cond_true]
  · rfl

noncomputable def enWrk : Env := envH ty noG lks [oMis, oEqHo] [] [] []

theorem enWrk_ok : EnvOK Tryz.prog enWrk := by
  refine envH_ok lks_ok ty_ok ?_ ?_
  · simp only [List.forall_mem_cons]
    exact ⟨okMis, okEqHo, by simp⟩
  · simp

def wkL : List Beat := [⟨⟨#[97]⟩, 3, 0, 1, 0⟩]

theorem wk_miss : F.missing wkL = ([⟨⟨#[97]⟩, 1, 3⟩], 0) := by kernel_rfl

theorem evWrk  : (runF enWrk false Tryz.f8 []).val =
  Option.bind (unenc encMis [AV.sl [[(vS (ByteArray.mk (Array.mk [(97 : UInt8)]))), (vI (3 : Int)), (vI (0 : Int)), (vI (1 : Int)), (vI (0 : Int))]]]) fun (z : List Beat) =>
  bif (F.missing z).snd == (0 : Int) then bif (F.missing z).snd == (0 : Int) then bif (F.missing z).snd == (0 : Int) then Option.bind (unenc encEqHo [AV.sl (List.map eHole
  (F.missing z).fst), AV.sl [[(vS (ByteArray.mk (Array.mk [(97 : UInt8)]))), (vI (1 : Int)), (vI (3 : Int))]]]) fun (z_1 : List Hole × List Hole) => some ((vB (bif
  (F.missing z).snd == (0 : Int) then F.eqL eqHole z_1.fst z_1.snd else false)), []) else some ((vB false), []) else bif (F.missing z).snd == (0 : Int) then Option.bind
  (unenc encEqHo [AV.sl (List.map eHole (F.missing z).fst), AV.unk]) fun (z_1 : List Hole × List Hole) => some ((vB (bif (F.missing z).snd == (0 : Int) then F.eqL eqHole
  z_1.fst z_1.snd else false)), []) else some ((vB false), []) else bif (F.missing z).snd == (0 : Int) then none else bif (F.missing z).snd == (0 : Int) then Option.bind
  (unenc encEqHo [AV.sl (List.map eHole (F.missing z).fst), AV.unk]) fun (z_1 : List Hole × List Hole) => some ((vB (bif (F.missing z).snd == (0 : Int) then F.eqL eqHole
  z_1.fst z_1.snd else false)), []) else some ((vB false), []) := by kernel_rfl

def encWrk1  : List AV := []

def encWrk (a : Unit) : List AV := encWrk1

theorem encWrk_inj (a a' : Unit) (h : encWrk a = encWrk a') : a = a' := rfl

theorem unWrk  : unenc encWrk ([]) = some () := unenc_of encWrk_inj () rfl

def resWrk1  : AV × Heap := (vB true, [])

def preWrk1  : Bool := true

noncomputable def oWrk : Orc := orc 8 true encWrk (fun a => preWrk1) fun a => resWrk1

theorem okWrk : OrcOK Tryz.prog noG oWrk := by
  refine mk_ok Tryz.f8 (keep := false) (by kernel_rfl) (by kernel_rfl) enWrk_ok mixed (no_loops (by kernel_rfl)) (by first | exact fun _ _ => ⟨rfl, rfl⟩ | (intro h; cases h)) ?_
  rintro ⟨⟩ hpre hok
  show (runF enWrk false _ (encWrk1 )).val = some (resWrk1 )
  unfold encWrk1 resWrk1
  rw [evWrk]
  show (Option.bind (unenc encMis (encMis wkL)) _ : Option (AV × Heap)) = _
  rw [unenc_of encMis_inj wkL rfl, Option.bind_some]
  have e : unenc encEqHo [.sl ([(⟨⟨#[97]⟩, 1, 3⟩ : Hole)].map eHole), .sl [[vS ⟨#[97]⟩, vI 1, vI 3]]] = some ([⟨⟨#[97]⟩, 1, 3⟩], [⟨⟨#[97]⟩, 1, 3⟩]) := unenc_of encEqHo_inj ([⟨⟨#[97]⟩, 1, 3⟩], [⟨⟨#[97]⟩, 1, 3⟩]) rfl
  simp only [wk_miss, beq_self_eq_true, cond_true]
  show (Option.bind (unenc encEqHo [.sl ([(⟨⟨#[97]⟩, 1, 3⟩ : Hole)].map eHole), .sl [[vS ⟨#[97]⟩, vI 1, vI 3]]]) _ : Option (AV × Heap)) = _
  rw [e]
  simp only [Option.bind_some, F.eqL_refl eqHole_refl]

end M
end Go.Proofs.YtlemjphdhapfpaaGreatDoor
