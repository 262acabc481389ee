/- What is proved here: what CheckCaptions returns on plain data, of the program and of the reference (no statement of the seat). -/
import Derived.Test.YthcfbeckhgngiaaGreatDoorC2
namespace Go.Proofs.YthcfbeckhgngiaaGreatDoor
open Go Go.RowKit
set_option linter.unusedVariables false
set_option linter.unusedSimpArgs false

def F.before (a b : Cap) : Bool := F.lt a.fr b.fr || ((a.fr == b.fr) && F.lt a.to b.to)

def F.noTime (n : Int) : Bool := F.out n 0 359999999

def F.allL (l : List ByteArray) : Bool := l.all F.line

def F.linesF (l : List ByteArray) : Int := bif l.isEmpty then 9 else bif decide (15 < l.length) then 2 else bif F.allL l then 0 else 3

def F.befP (p : Option Cap) (c : Cap) : Bool := match p with
  | none => false
  | some o => F.before c o

/-- The fault of a caption behind another one. -/
def F.capF (p : Option Cap) (c : Cap) : Int :=
  bif F.noTime c.fr || F.noTime c.to then 1 else bif F.le c.to c.fr || F.befP p c then 8 else bif F.out c.row 0 15 then 1 else F.linesF c.lines

/-- The first fault of a list, each behind the one before it. -/
def F.chkP {α : Type} (f : Option α → α → Int) : Option α → List α → Int
  | _, [] => 0
  | p, c :: l => bif f p c != 0 then f p c else F.chkP f (some c) l

def F.prev {α : Type} (l : List α) : Nat → Option α
  | 0 => none
  | k + 1 => l[k]?

def F.chkC (l : List Cap) : Int := bif decide (500 < l.length) then 2 else F.chkP F.capF none l

def F.smL (l : List ByteArray) : Bool := l.all F.small

def F.smC (l : List Cap) : Bool := l.all fun c => F.smL c.lines

theorem F.smC_at {l : List Cap} (h : F.smC l = true) {c : Cap} (hc : c ∈ l) : F.smL c.lines = true := List.all_eq_true.1 h c hc

theorem F.smL_at {l : List ByteArray} (h : F.smL l = true) {s : ByteArray} (hs : s ∈ l) : F.small s = true := List.all_eq_true.1 h s hs

namespace M

/-- A loop that looks for the first fault, with the element before. -/
theorem loop_chkP {α : Type} {E : Env} {x : Code} {n e r : List Nat × List Nat} {l : List α} {f : Option α → α → Int} {st : Nat → St} {o : Int → Ex × St} {fin : Ex × St}
    (hfin : ((exec E x (st l.length)).bind (lessX n e r)).val = some fin) (hf1 : fin.1 ≠ .normal ∧ closedB fin.2 = true) (ho : ∀ c, (o c).1 ≠ .normal ∧ closedB (o c).2 = true) (hs : ∀ k, closedB (st k) = true)
    (hgo : ∀ k y, l[k]? = some y → ((exec E x (st k)).bind (lessX n e r)).val = bif f (F.prev l k) y != 0 then some (o (f (F.prev l k) y)) else some (.normal, st (k + 1))) :
    ∀ k, k ≤ l.length → ∀ ex s', (T.ifB (decide (F.chkP f (F.prev l k) (l.drop k) = 0)) (.ret fin) (.ret (o (F.chkP f (F.prev l k) (l.drop k))))).val = some (ex, s') → LoopOK E x (st k) ex s' := by
  refine loop_gen (st := st) (out := fun k => T.ifB (decide (F.chkP f (F.prev l k) (l.drop k) = 0)) (.ret fin) (.ret (o (F.chkP f (F.prev l k) (l.drop k))))) (I := fun k => k ≤ l.length) (n := n) (e := e) (r := r) (fun k => l.length - k) ?_
  intro k hk
  by_cases hlt : k < l.length
  · have hy : l[k]? = some l[k] := List.getElem?_eq_getElem hlt
    have hd : l.drop k = l[k] :: l.drop (k + 1) := List.drop_eq_getElem_cons hlt
    generalize l[k] = y at hy hd
    have hg := hgo k y hy
    simp only [hd, F.chkP]
    cases hf : f (F.prev l k) y != 0
    · right
      rw [hf] at hg
      simp only [cond_false] at hg ⊢
      exact ⟨k + 1, hg, hs _, hlt, by omega, by simp only [F.prev, hy]⟩
    · left
      rw [hf] at hg
      simp only [cond_true] at hg ⊢
      have hne : f (F.prev l k) y ≠ 0 := by simpa using hf
      exact ⟨_, hg, by simp [T.val, hne], (ho _).1, (ho _).2⟩
  · have : k = l.length := by omega
    subst this
    left
    refine ⟨_, hfin, ?_, hf1.1, hf1.2⟩
    rw [List.drop_length]
    simp [F.chkP, T.val]

theorem cast_gt (m n : Nat) : decide ((m : Int) < (n : Int)) = decide (m < n) := by
  by_cases h : m < n
  · rw [decide_eq_true h, decide_eq_true (by omega)]
  · rw [decide_eq_false h, decide_eq_false (by omega)]

theorem isE {α : Type} (l : List α) : (((l.length : Nat) : Int) == 0) = l.isEmpty := by
  cases l with
  | nil => rfl
  | cons y l => simp; omega

theorem evBef (a : Cap) (b : Cap) : (runF en0 false Tryz.f56 [.agg (eCap a), .agg (eCap b)]).val =
  some ((vB (bif decide (a.fr < b.fr) then true else bif a.fr == b.fr then decide (a.to < b.to) else false)), []) := by kernel_rfl

def encBef1 (a : Cap) (b : Cap) : List AV := [.agg (eCap a), .agg (eCap b)]

def encBef (a : Cap × Cap) : List AV := encBef1 a.1 a.2

theorem encBef_inj (a a' : Cap × Cap) (h : encBef a = encBef a') : a = a' := by
  simp only [encBef, encBef1] at h
  try simp [strs_inj, ints_inj, bools_inj, eL_eIs_inj, eCaps_inj, eCap_iff, eL_eCaps_inj, eMchs_inj, eMch_iff, eWrds_inj, eWrd_iff, eFnds_inj, eFnd_iff, eRatios_inj, eRatio_iff, eWays_inj, eWay_iff] at h
  grind

theorem unBef (a : Cap) (b : Cap) : unenc encBef ([AV.agg [(vI a.fr), (vI a.to), AV.sl (List.map eStr a.lines), (vI a.row), (vB a.bef), (vB a.aft)], AV.agg [(vI b.fr), (vI b.to), AV.sl (List.map eStr b.lines), (vI b.row),
  (vB b.bef), (vB b.aft)]]) = some (a, b) := unenc_of encBef_inj (a, b) rfl

theorem unBefw (a_fr : Int) (a_to : Int) (a_lines : List ByteArray) (a_row : Int) (a_bef : Bool) (a_aft : Bool) (b_fr : Int) (b_to : Int) (b_lines : List ByteArray) (b_row : Int) (b_bef : Bool) (b_aft : Bool) : unenc encBef ([AV.agg [(vI a_fr), (vI a_to), AV.sl (List.map eStr a_lines), (vI a_row), (vB a_bef), (vB a_aft)], AV.agg [(vI b_fr), (vI b_to), AV.sl (List.map eStr b_lines), (vI b_row),
  (vB b_bef), (vB b_aft)]]) = some ((Cap.mk a_fr a_to a_lines a_row a_bef a_aft), (Cap.mk b_fr b_to b_lines b_row b_bef b_aft)) := unenc_of encBef_inj ((Cap.mk a_fr a_to a_lines a_row a_bef a_aft), (Cap.mk b_fr b_to b_lines b_row b_bef b_aft)) rfl

def resBef1 (a : Cap) (b : Cap) : AV × Heap := (vB (F.before a b), [])

def preBef1 (a : Cap) (b : Cap) : Bool := true

noncomputable def oBef : Orc := orc 56 true encBef (fun a => preBef1 a.1 a.2) fun a => resBef1 a.1 a.2

theorem okBef : OrcOK Tryz.prog noG oBef := by
  refine mk_ok Tryz.f56 (keep := false) (by kernel_rfl) (by kernel_rfl) en0_ok mixed (no_loops (by kernel_rfl)) (by first | exact fun _ _ => ⟨rfl, rfl⟩ | (intro h; cases h)) ?_
  rintro ⟨a, b⟩ hpre hok
  show (runF en0 false _ (encBef1 _ _)).val = some (resBef1 _ _)
  unfold encBef1 resBef1
  rw [evBef]
  simp only [etaCap, etaMch, etaWrd, etaFnd, etaRatio, etaWay, Option.bind_some, List.length_map, unStrs, unInts, unBools, uneL_eIs, unCaps, uneL_eCaps, unMchs, unWrds, unFnds, unRatios, unWays, F.lt, F.le, cond_true, cond_false, Bool.and_true, Bool.true_and, F.before]
  cases decide (a.fr < b.fr) <;> cases (a.fr == b.fr) <;> cases decide (a.to < b.to) <;> rfl

theorem evRBef (a : Cap) (b : Cap) : (runF en0 false Tryz.f47 [.agg (eCap a), .agg (eCap b)]).val =
  some ((vB (bif decide (a.fr < b.fr) then true else bif a.fr == b.fr then decide (a.to < b.to) else false)), []) := by kernel_rfl

def encRBef1 (a : Cap) (b : Cap) : List AV := [.agg (eCap a), .agg (eCap b)]

def encRBef (a : Cap × Cap) : List AV := encRBef1 a.1 a.2

theorem encRBef_inj (a a' : Cap × Cap) (h : encRBef a = encRBef a') : a = a' := by
  simp only [encRBef, encRBef1] at h
  try simp [strs_inj, ints_inj, bools_inj, eL_eIs_inj, eCaps_inj, eCap_iff, eL_eCaps_inj, eMchs_inj, eMch_iff, eWrds_inj, eWrd_iff, eFnds_inj, eFnd_iff, eRatios_inj, eRatio_iff, eWays_inj, eWay_iff] at h
  grind

theorem unRBef (a : Cap) (b : Cap) : unenc encRBef ([AV.agg [(vI a.fr), (vI a.to), AV.sl (List.map eStr a.lines), (vI a.row), (vB a.bef), (vB a.aft)], AV.agg [(vI b.fr), (vI b.to), AV.sl (List.map eStr b.lines), (vI b.row),
  (vB b.bef), (vB b.aft)]]) = some (a, b) := unenc_of encRBef_inj (a, b) rfl

theorem unRBefw (a_fr : Int) (a_to : Int) (a_lines : List ByteArray) (a_row : Int) (a_bef : Bool) (a_aft : Bool) (b_fr : Int) (b_to : Int) (b_lines : List ByteArray) (b_row : Int) (b_bef : Bool) (b_aft : Bool) : unenc encRBef ([AV.agg [(vI a_fr), (vI a_to), AV.sl (List.map eStr a_lines), (vI a_row), (vB a_bef), (vB a_aft)], AV.agg [(vI b_fr), (vI b_to), AV.sl (List.map eStr b_lines), (vI b_row),
  (vB b_bef), (vB b_aft)]]) = some ((Cap.mk a_fr a_to a_lines a_row a_bef a_aft), (Cap.mk b_fr b_to b_lines b_row b_bef b_aft)) := unenc_of encRBef_inj ((Cap.mk a_fr a_to a_lines a_row a_bef a_aft), (Cap.mk b_fr b_to b_lines b_row b_bef b_aft)) rfl

def resRBef1 (a : Cap) (b : Cap) : AV × Heap := (vB (F.before a b), [])

def preRBef1 (a : Cap) (b : Cap) : Bool := true

noncomputable def oRBef : Orc := orc 47 true encRBef (fun a => preRBef1 a.1 a.2) fun a => resRBef1 a.1 a.2

theorem okRBef : OrcOK Tryz.prog noG oRBef := by
  refine mk_ok Tryz.f47 (keep := false) (by kernel_rfl) (by kernel_rfl) en0_ok mixed (no_loops (by kernel_rfl)) (by first | exact fun _ _ => ⟨rfl, rfl⟩ | (intro h; cases h)) ?_
  rintro ⟨a, b⟩ hpre hok
  show (runF en0 false _ (encRBef1 _ _)).val = some (resRBef1 _ _)
  unfold encRBef1 resRBef1
  rw [evRBef]
  simp only [etaCap, etaMch, etaWrd, etaFnd, etaRatio, etaWay, Option.bind_some, List.length_map, unStrs, unInts, unBools, uneL_eIs, unCaps, uneL_eCaps, unMchs, unWrds, unFnds, unRatios, unWays, F.lt, F.le, cond_true, cond_false, Bool.and_true, Bool.true_and, F.before]
  cases decide (a.fr < b.fr) <;> cases (a.fr == b.fr) <;> cases decide (a.to < b.to) <;> rfl

noncomputable def enNoT : Env := envH ty noG lks [oOut] [] [] []

theorem enNoT_ok : EnvOK Tryz.prog enNoT := by
  refine envH_ok lks_ok ty_ok ?_ ?_
  · simp only [List.forall_mem_cons]
    exact ⟨okOut, by simp⟩
  · simp

theorem evNoT (n : Int) : (runF enNoT false Tryz.f55 [vI n]).val =
  Option.bind (unenc encOut [(vI n), (vI (0 : Int)), (vI (359999999 : Int))]) fun (z : Int × Int × Int) => some ((vB (F.out z.fst z.snd.fst z.snd.snd)), []) := by kernel_rfl

def encNoT1 (n : Int) : List AV := [vI n]

def encNoT (a : Int) : List AV := encNoT1 a

theorem encNoT_inj (a a' : Int) (h : encNoT a = encNoT a') : a = a' := by
  simp only [encNoT, encNoT1] at h
  try simp [strs_inj, ints_inj, bools_inj, eL_eIs_inj, eCaps_inj, eCap_iff, eL_eCaps_inj, eMchs_inj, eMch_iff, eWrds_inj, eWrd_iff, eFnds_inj, eFnd_iff, eRatios_inj, eRatio_iff, eWays_inj, eWay_iff] at h
  grind

theorem unNoT (n : Int) : unenc encNoT ([(vI n)]) = some (n) := unenc_of encNoT_inj (n) rfl

def resNoT1 (n : Int) : AV × Heap := (vB (F.noTime n), [])

def preNoT1 (n : Int) : Bool := true

noncomputable def oNoT : Orc := orc 55 true encNoT (fun a => preNoT1 a) fun a => resNoT1 a

theorem okNoT : OrcOK Tryz.prog noG oNoT := by
  refine mk_ok Tryz.f55 (keep := false) (by kernel_rfl) (by kernel_rfl) enNoT_ok mixed (no_loops (by kernel_rfl)) (by first | exact fun _ _ => ⟨rfl, rfl⟩ | (intro h; cases h)) ?_
  rintro n hpre hok
  show (runF enNoT false _ (encNoT1 _)).val = some (resNoT1 _)
  unfold encNoT1 resNoT1
  rw [evNoT]
  simp only [unOut, preOut1, etaCap, etaMch, etaWrd, etaFnd, etaRatio, etaWay, Option.bind_some, List.length_map, unStrs, unInts, unBools, uneL_eIs, unCaps, uneL_eCaps, unMchs, unWrds, unFnds, unRatios, unWays, F.lt, F.le, cond_true, cond_false, Bool.and_true, Bool.true_and, F.noTime]

noncomputable def enIsTm : Env := envH ty noG lks [oWithin] [] [] []

theorem enIsTm_ok : EnvOK Tryz.prog enIsTm := by
  refine envH_ok lks_ok ty_ok ?_ ?_
  · simp only [List.forall_mem_cons]
    exact ⟨okWithin, by simp⟩
  · simp

theorem evIsTm (n : Int) : (runF enIsTm false Tryz.f46 [vI n]).val =
  Option.bind (unenc encWithin [(vI n), (vI (0 : Int)), (vI (359999999 : Int))]) fun (z : Int × Int × Int) => some ((vB (F.within z.fst z.snd.fst z.snd.snd)), []) := by kernel_rfl

def encIsTm1 (n : Int) : List AV := [vI n]

def encIsTm (a : Int) : List AV := encIsTm1 a

theorem encIsTm_inj (a a' : Int) (h : encIsTm a = encIsTm a') : a = a' := by
  simp only [encIsTm, encIsTm1] at h
  try simp [strs_inj, ints_inj, bools_inj, eL_eIs_inj, eCaps_inj, eCap_iff, eL_eCaps_inj, eMchs_inj, eMch_iff, eWrds_inj, eWrd_iff, eFnds_inj, eFnd_iff, eRatios_inj, eRatio_iff, eWays_inj, eWay_iff] at h
  grind

theorem unIsTm (n : Int) : unenc encIsTm ([(vI n)]) = some (n) := unenc_of encIsTm_inj (n) rfl

def resIsTm1 (n : Int) : AV × Heap := (vB (!F.noTime n), [])

def preIsTm1 (n : Int) : Bool := true

noncomputable def oIsTm : Orc := orc 46 true encIsTm (fun a => preIsTm1 a) fun a => resIsTm1 a

theorem okIsTm : OrcOK Tryz.prog noG oIsTm := by
  refine mk_ok Tryz.f46 (keep := false) (by kernel_rfl) (by kernel_rfl) enIsTm_ok mixed (no_loops (by kernel_rfl)) (by first | exact fun _ _ => ⟨rfl, rfl⟩ | (intro h; cases h)) ?_
  rintro n hpre hok
  show (runF enIsTm false _ (encIsTm1 _)).val = some (resIsTm1 _)
  unfold encIsTm1 resIsTm1
  rw [evIsTm]
  simp only [unWithin, preWithin1, etaCap, etaMch, etaWrd, etaFnd, etaRatio, etaWay, Option.bind_some, List.length_map, unStrs, unInts, unBools, uneL_eIs, unCaps, uneL_eCaps, unMchs, unWrds, unFnds, unRatios, unWays, F.lt, F.le, cond_true, cond_false, Bool.and_true, Bool.true_and, F.noTime, F.within_eq]

def stChC1 (l : List Cap) (k : Nat) : St := ⟨[(12, vI k), (11, vI l.length), (10, .sl (l.map eCap)), (0, .sl (l.map eCap))], []⟩

def stChC11 (a : (List Cap) × Nat) : St := stChC1 a.1 a.2

theorem stChC1_inj (a a' : (List Cap) × Nat) (h : stChC11 a = stChC11 a') : a = a' := by
  simp only [stChC11, stChC1] at h
  try simp [strs_inj, ints_inj, bools_inj, eL_eIs_inj, eCaps_inj, eCap_iff, eL_eCaps_inj, eMchs_inj, eMch_iff, eWrds_inj, eWrd_iff, eFnds_inj, eFnd_iff, eRatios_inj, eRatio_iff, eWays_inj, eWay_iff] at h
  grind

theorem unstChC1 (l : List Cap) (k : Nat) : unenc stChC11 (St.mk [(12, (vI (↑k : Int))), (11, (vI (↑(List.length l) : Int))), (10, AV.sl (List.map eCap l)), (0, AV.sl (List.map eCap l))] []) = some (l, k) := unenc_of stChC1_inj (l, k) rfl

theorem unstChC10 (l : List Cap)  : unenc stChC11 (St.mk [(12, (vI (0 : Int))), (11, (vI (↑(List.length l) : Int))), (10, AV.sl (List.map eCap l)), (0, AV.sl (List.map eCap l))] []) = some (l, 0) := unenc_of stChC1_inj (l, 0) rfl

def outChC1 (l : List Cap) (k : Nat) : T (Ex × St) := .ifB (decide (F.chkP F.capF (F.prev l k) (l.drop k) = 0)) (.ret (.exit 0, ⟨[], []⟩)) (.ret (.ret, ⟨[(2, vI (F.chkP F.capF (F.prev l k) (l.drop k)))], []⟩))

noncomputable def prlChC1 (l : List Cap) (k : Nat) : Bool := decide (l.length ≤ 9223372036854775807) && decide (k ≤ l.length) && F.smC l

noncomputable def lpChC1 : Nat × (St → T (Ex × St)) := (4, lpo [12, 11, 10, 0] [] stChC11 (fun a => prlChC1 a.1 a.2) fun a => outChC1 a.1 a.2)

def stChC2 (l : List Cap) (ls : List ByteArray) (k : Nat) (j : Nat) : St := ⟨[(62, vI j), (61, vI ls.length), (60, .sl (ls.map eStr)), (12, vI k), (11, vI l.length), (10, .sl (l.map eCap)), (0, .sl (l.map eCap))], []⟩

def stChC21 (a : (List Cap) × (List ByteArray) × Nat × Nat) : St := stChC2 a.1 a.2.1 a.2.2.1 a.2.2.2

theorem stChC2_inj (a a' : (List Cap) × (List ByteArray) × Nat × Nat) (h : stChC21 a = stChC21 a') : a = a' := by
  simp only [stChC21, stChC2] at h
  try simp [strs_inj, ints_inj, bools_inj, eL_eIs_inj, eCaps_inj, eCap_iff, eL_eCaps_inj, eMchs_inj, eMch_iff, eWrds_inj, eWrd_iff, eFnds_inj, eFnd_iff, eRatios_inj, eRatio_iff, eWays_inj, eWay_iff] at h
  grind

theorem unstChC2 (l : List Cap) (ls : List ByteArray) (k : Nat) (j : Nat) : unenc stChC21 (St.mk [(62, (vI (↑j : Int))), (61, (vI (↑(List.length ls) : Int))), (60, AV.sl (List.map eStr ls)), (12, (vI (↑k : Int))), (11, (vI (↑(List.length l) : Int))), (10, AV.sl
  (List.map eCap l)), (0, AV.sl (List.map eCap l))] []) = some (l, ls, k, j) := unenc_of stChC2_inj (l, ls, k, j) rfl

theorem unstChC20 (l : List Cap) (ls : List ByteArray) (k : Nat)  : unenc stChC21 (St.mk [(62, (vI (0 : Int))), (61, (vI (↑(List.length ls) : Int))), (60, AV.sl (List.map eStr ls)), (12, (vI (↑k : Int))), (11, (vI (↑(List.length l) : Int))), (10, AV.sl
  (List.map eCap l)), (0, AV.sl (List.map eCap l))] []) = some (l, ls, k, 0) := unenc_of stChC2_inj (l, ls, k, 0) rfl

def outChC2 (l : List Cap) (ls : List ByteArray) (k : Nat) (j : Nat) : T (Ex × St) := .ifB (F.allL (ls.drop j)) (.ret (.exit 3, ⟨[(12, vI k), (11, vI l.length), (10, .sl (l.map eCap)), (0, .sl (l.map eCap))], []⟩)) (.ret (.ret, ⟨[(2, vI 3)], []⟩))

noncomputable def prlChC2 (l : List Cap) (ls : List ByteArray) (k : Nat) (j : Nat) : Bool := decide (ls.length ≤ 9223372036854775807) && decide (j ≤ ls.length) && F.smL ls

noncomputable def lpChC2 : Nat × (St → T (Ex × St)) := (17, lpo [62, 61, 60, 12, 11, 10, 0] [] stChC21 (fun a => prlChC2 a.1 a.2.1 a.2.2.1 a.2.2.2) fun a => outChC2 a.1 a.2.1 a.2.2.1 a.2.2.2)

noncomputable def enChC : Env := envH ty noG lks [oNoT, oBef, oOut, oLin] [] [] [lpChC1, lpChC2]

theorem enChC_ok : EnvOK Tryz.prog enChC := by
  refine envH_ok lks_ok ty_ok ?_ ?_
  · simp only [List.forall_mem_cons]
    exact ⟨okNoT, okBef, okOut, okLin, by simp⟩
  · simp

theorem evChC2L (l : List Cap) (ls : List ByteArray) (k : Nat) (j : Nat) : ((exec enChC (loopN Tryz.f22 1) (stChC2 l ls k j)).bind (lessX ([62, 61, 60, 12, 11, 10, 0], []) ([12, 11, 10, 0], []) ([2], []))).val =
  bif decide ((↑j : Int) < (↑(List.length ls) : Int)) then Option.bind (unenc (List.map eStr) (List.map eStr ls)) fun (z : List ByteArray) => bif decide (j < List.length z)
  then Option.bind (unenc encLin [(vS (List.getD z j (ByteArray.mk (Array.mk []))))]) fun (z : ByteArray) => bif F.small z then bif !F.line z then some (Ex.ret, St.mk [(2,
  (vI (3 : Int)))] []) else some (Ex.normal, St.mk [(62, (vI (IntKind.wrap IntKind.i64 ((↑j : Int) + (1 : Int))))), (61, (vI (↑(List.length ls) : Int))), (60, AV.sl
  (List.map eStr ls)), (12, (vI (↑k : Int))), (11, (vI (↑(List.length l) : Int))), (10, AV.sl (List.map eCap l)), (0, AV.sl (List.map eCap l))] []) else none else none else
  some (Ex.exit (3 : Nat), St.mk [(12, (vI (↑k : Int))), (11, (vI (↑(List.length l) : Int))), (10, AV.sl (List.map eCap l)), (0, AV.sl (List.map eCap l))] []) := by kernel_rfl

theorem lpChC2_ok (l : List Cap) (ls : List ByteArray) (k : Nat) (j : Nat) (hp : prlChC2 l ls k j = true) : ∀ ex s', (outChC2 l ls k j).val = some (ex, s') → LoopOK enChC (loopN Tryz.f22 1) (stChC2 l ls k j) ex s' := by
  simp only [prlChC2, Bool.and_eq_true, decide_eq_true_eq] at hp
  obtain ⟨⟨h1, h2⟩, h3⟩ := hp
  refine loop_all (xs := ls) (st := stChC2 l ls k) (p := F.line) (n := ([62, 61, 60, 12, 11, 10, 0], [])) (e := ([12, 11, 10, 0], [])) (r := ([2], [])) ?_ ⟨by simp, rfl⟩ ⟨by simp, rfl⟩ (fun _ => rfl) ?_ j h2
  · rw [evChC2L]; simp
  · intro j y hy
    have hlt := lt_at hy
    have hsm := F.smL_at h3 (List.mem_of_getElem? hy)
    rw [evChC2L]
    simp only [unNoT, unBef, unOut, unLin, unBefw, preNoT1, preBef1, preOut1, preLin1, unstChC1, unstChC2, unstChC10, unstChC20, prlChC1, prlChC2, outChC1, outChC2, etaCap, etaMch, etaWrd, etaFnd, etaRatio, etaWay, Option.bind_some, List.length_map, unStrs, unInts, unBools, uneL_eIs, unCaps, uneL_eCaps, unMchs, unWrds, unFnds, unRatios, unWays, F.lt, F.le, cond_true, cond_false, Bool.and_true, Bool.true_and, cast_lt hlt, decide_eq_true hlt, next_at hlt h1, getD_at hy, stChC2, hsm]
    cases F.line y <;> rfl

theorem evChC1L (l : List Cap) (k : Nat) : ((exec enChC (loopN Tryz.f22 0) (stChC1 l k)).bind (lessX ([12, 11, 10, 0], []) ([], []) ([2], []))).val =
  bif decide ((↑k : Int) < (↑(List.length l) : Int)) then Option.bind (unenc (List.map eCap) (List.map eCap l)) fun (z : List Cap) => bif decide (k < List.length z) then
  Option.bind (unenc encNoT [(vI (List.getD z k (Cap.mk (0 : Int) (0 : Int) [] (0 : Int) false false)).fr)]) fun (z_1 : Int) => bif !F.noTime z_1 then Option.bind (unenc
  encNoT [(vI (List.getD z k (Cap.mk (0 : Int) (0 : Int) [] (0 : Int) false false)).to)]) fun (z_2 : Int) => bif bif F.noTime z_1 then true else F.noTime z_2 then some
  (Ex.ret, St.mk [(2, (vI (1 : Int)))] []) else bif !decide ((List.getD z k (Cap.mk (0 : Int) (0 : Int) [] (0 : Int) false false)).to ≤ (List.getD z k (Cap.mk (0 : Int) (0 :
  Int) [] (0 : Int) false false)).fr) && decide ((0 : Int) < (↑k : Int)) then Option.bind (idx (IntKind.wrap IntKind.i64 ((↑k : Int) - (1 : Int)))) fun (z_3 : Nat) =>
  Option.bind (unenc (List.map eCap) (List.map eCap l)) fun (z_4 : List Cap) => bif decide (z_3 < List.length z_4) then bif !decide ((List.getD z k (Cap.mk (0 : Int) (0 :
  Int) [] (0 : Int) false false)).to ≤ (List.getD z k (Cap.mk (0 : Int) (0 : Int) [] (0 : Int) false false)).fr) && decide ((0 : Int) < (↑k : Int)) then Option.bind (unenc
  encBef [AV.agg [(vI (List.getD z k (Cap.mk (0 : Int) (0 : Int) [] (0 : Int) false false)).fr), (vI (List.getD z k (Cap.mk (0 : Int) (0 : Int) [] (0 : Int) false
  false)).to), AV.sl (List.map eStr (List.getD z k (Cap.mk (0 : Int) (0 : Int) [] (0 : Int) false false)).lines), (vI (List.getD z k (Cap.mk (0 : Int) (0 : Int) [] (0 : Int)
  false false)).row), (vB (List.getD z k (Cap.mk (0 : Int) (0 : Int) [] (0 : Int) false false)).bef), (vB (List.getD z k (Cap.mk (0 : Int) (0 : Int) [] (0 : Int) false
  false)).aft)], AV.agg [(vI (List.getD z_4 z_3 (Cap.mk (0 : Int) (0 : Int) [] (0 : Int) false false)).fr), (vI (List.getD z_4 z_3 (Cap.mk (0 : Int) (0 : Int) [] (0 : Int)
  false false)).to), AV.sl (List.map eStr (List.getD z_4 z_3 (Cap.mk (0 : Int) (0 : Int) [] (0 : Int) false false)).lines), (vI (List.getD z_4 z_3 (Cap.mk (0 : Int) (0 :
  Int) [] (0 : Int) false false)).row), (vB (List.getD z_4 z_3 (Cap.mk (0 : Int) (0 : Int) [] (0 : Int) false false)).bef), (vB (List.getD z_4 z_3 (Cap.mk (0 : Int) (0 :
  Int) [] (0 : Int) false false)).aft)]]) fun (z_5 : Cap × Cap) => bif bif decide ((List.getD z k (Cap.mk (0 : Int) (0 : Int) [] (0 : Int) false false)).to ≤ (List.getD z k
  (Cap.mk (0 : Int) (0 : Int) [] (0 : Int) false false)).fr) then true else bif decide ((0 : Int) < (↑k : Int)) then F.before z_5.fst z_5.snd else false then some (Ex.ret,
  St.mk [(2, (vI (8 : Int)))] []) else Option.bind (unenc encOut [(vI (List.getD z k (Cap.mk (0 : Int) (0 : Int) [] (0 : Int) false false)).row), (vI (0 : Int)), (vI (15 :
  Int))]) fun (z_6 : Int × Int × Int) => bif F.out z_6.fst z_6.snd.fst z_6.snd.snd then some (Ex.ret, St.mk [(2, (vI (1 : Int)))] []) else bif (↑(List.length (List.map eStr
  (List.getD z k (Cap.mk (0 : Int) (0 : Int) [] (0 : Int) false false)).lines)) : Int) == (0 : Int) then some (Ex.ret, St.mk [(2, (vI (9 : Int)))] []) else bif decide ((15 :
  Int) < (↑(List.length (List.map eStr (List.getD z k (Cap.mk (0 : Int) (0 : Int) [] (0 : Int) false false)).lines)) : Int)) then some (Ex.ret, St.mk [(2, (vI (2 : Int)))]
  []) else Option.bind (unenc stChC21 (St.mk [(62, (vI (0 : Int))), (61, (vI (↑(List.length (List.map eStr (List.getD z k (Cap.mk (0 : Int) (0 : Int) [] (0 : Int) false
  false)).lines)) : Int))), (60, AV.sl (List.map eStr (List.getD z k (Cap.mk (0 : Int) (0 : Int) [] (0 : Int) false false)).lines)), (12, (vI (↑k : Int))), (11, (vI
  (↑(List.length l) : Int))), (10, AV.sl (List.map eCap l)), (0, AV.sl (List.map eCap l))] [])) fun (z : List Cap × List ByteArray × Nat × Nat) => bif decide (List.length
  z.snd.fst ≤ (9223372036854775807 : Nat)) && decide (z.snd.snd.snd ≤ List.length z.snd.fst) && F.smL z.snd.fst && true then bif F.allL (List.drop z.snd.snd.snd z.snd.fst)
  then some (Ex.normal, St.mk [(12, (vI (IntKind.wrap IntKind.i64 ((↑z.snd.snd.fst : Int) + (1 : Int))))), (11, (vI (↑(List.length z.fst) : Int))), (10, AV.sl (List.map eCap
  z.fst)), (0, AV.sl (List.map eCap z.fst))] []) else some (Ex.ret, St.mk [(2, (vI (3 : Int)))] []) else none else bif bif decide ((List.getD z k (Cap.mk (0 : Int) (0 : Int)
  [] (0 : Int) false false)).to ≤ (List.getD z k (Cap.mk (0 : Int) (0 : Int) [] (0 : Int) false false)).fr) then true else false then some (Ex.ret, St.mk [(2, (vI (8 :
  Int)))] []) else Option.bind (unenc encOut [(vI (List.getD z k (Cap.mk (0 : Int) (0 : Int) [] (0 : Int) false false)).row), (vI (0 : Int)), (vI (15 : Int))]) fun (z_5 :
  Int × Int × Int) => bif F.out z_5.fst z_5.snd.fst z_5.snd.snd then some (Ex.ret, St.mk [(2, (vI (1 : Int)))] []) else bif (↑(List.length (List.map eStr (List.getD z k
  (Cap.mk (0 : Int) (0 : Int) [] (0 : Int) false false)).lines)) : Int) == (0 : Int) then some (Ex.ret, St.mk [(2, (vI (9 : Int)))] []) else bif decide ((15 : Int) <
  (↑(List.length (List.map eStr (List.getD z k (Cap.mk (0 : Int) (0 : Int) [] (0 : Int) false false)).lines)) : Int)) then some (Ex.ret, St.mk [(2, (vI (2 : Int)))] []) else
  Option.bind (unenc stChC21 (St.mk [(62, (vI (0 : Int))), (61, (vI (↑(List.length (List.map eStr (List.getD z k (Cap.mk (0 : Int) (0 : Int) [] (0 : Int) false
  false)).lines)) : Int))), (60, AV.sl (List.map eStr (List.getD z k (Cap.mk (0 : Int) (0 : Int) [] (0 : Int) false false)).lines)), (12, (vI (↑k : Int))), (11, (vI
  (↑(List.length l) : Int))), (10, AV.sl (List.map eCap l)), (0, AV.sl (List.map eCap l))] [])) fun (z : List Cap × List ByteArray × Nat × Nat) => bif decide (List.length
  z.snd.fst ≤ (9223372036854775807 : Nat)) && decide (z.snd.snd.snd ≤ List.length z.snd.fst) && F.smL z.snd.fst && true then bif F.allL (List.drop z.snd.snd.snd z.snd.fst)
  then some (Ex.normal, St.mk [(12, (vI (IntKind.wrap IntKind.i64 ((↑z.snd.snd.fst : Int) + (1 : Int))))), (11, (vI (↑(List.length z.fst) : Int))), (10, AV.sl (List.map eCap
  z.fst)), (0, AV.sl (List.map eCap z.fst))] []) else some (Ex.ret, St.mk [(2, (vI (3 : Int)))] []) else none else none else bif !decide ((List.getD z k (Cap.mk (0 : Int) (0
  : Int) [] (0 : Int) false false)).to ≤ (List.getD z k (Cap.mk (0 : Int) (0 : Int) [] (0 : Int) false false)).fr) && decide ((0 : Int) < (↑k : Int)) then none else bif
  !decide ((List.getD z k (Cap.mk (0 : Int) (0 : Int) [] (0 : Int) false false)).to ≤ (List.getD z k (Cap.mk (0 : Int) (0 : Int) [] (0 : Int) false false)).fr) && decide ((0
  : Int) < (↑k : Int)) then Option.bind (unenc encBef [AV.agg [(vI (List.getD z k (Cap.mk (0 : Int) (0 : Int) [] (0 : Int) false false)).fr), (vI (List.getD z k (Cap.mk (0 :
  Int) (0 : Int) [] (0 : Int) false false)).to), AV.sl (List.map eStr (List.getD z k (Cap.mk (0 : Int) (0 : Int) [] (0 : Int) false false)).lines), (vI (List.getD z k
  (Cap.mk (0 : Int) (0 : Int) [] (0 : Int) false false)).row), (vB (List.getD z k (Cap.mk (0 : Int) (0 : Int) [] (0 : Int) false false)).bef), (vB (List.getD z k (Cap.mk (0
  : Int) (0 : Int) [] (0 : Int) false false)).aft)], AV.unk]) fun (z_3 : Cap × Cap) => bif bif decide ((List.getD z k (Cap.mk (0 : Int) (0 : Int) [] (0 : Int) false
  false)).to ≤ (List.getD z k (Cap.mk (0 : Int) (0 : Int) [] (0 : Int) false false)).fr) then true else bif decide ((0 : Int) < (↑k : Int)) then F.before z_3.fst z_3.snd
  else false then some (Ex.ret, St.mk [(2, (vI (8 : Int)))] []) else Option.bind (unenc encOut [(vI (List.getD z k (Cap.mk (0 : Int) (0 : Int) [] (0 : Int) false
  false)).row), (vI (0 : Int)), (vI (15 : Int))]) fun (z_4 : Int × Int × Int) => bif F.out z_4.fst z_4.snd.fst z_4.snd.snd then some (Ex.ret, St.mk [(2, (vI (1 : Int)))] [])
  else bif (↑(List.length (List.map eStr (List.getD z k (Cap.mk (0 : Int) (0 : Int) [] (0 : Int) false false)).lines)) : Int) == (0 : Int) then some (Ex.ret, St.mk [(2, (vI
  (9 : Int)))] []) else bif decide ((15 : Int) < (↑(List.length (List.map eStr (List.getD z k (Cap.mk (0 : Int) (0 : Int) [] (0 : Int) false false)).lines)) : Int)) then
  some (Ex.ret, St.mk [(2, (vI (2 : Int)))] []) else Option.bind (unenc stChC21 (St.mk [(62, (vI (0 : Int))), (61, (vI (↑(List.length (List.map eStr (List.getD z k (Cap.mk
  (0 : Int) (0 : Int) [] (0 : Int) false false)).lines)) : Int))), (60, AV.sl (List.map eStr (List.getD z k (Cap.mk (0 : Int) (0 : Int) [] (0 : Int) false false)).lines)),
  (12, (vI (↑k : Int))), (11, (vI (↑(List.length l) : Int))), (10, AV.sl (List.map eCap l)), (0, AV.sl (List.map eCap l))] [])) fun (z : List Cap × List ByteArray × Nat ×
  Nat) => bif decide (List.length z.snd.fst ≤ (9223372036854775807 : Nat)) && decide (z.snd.snd.snd ≤ List.length z.snd.fst) && F.smL z.snd.fst && true then bif F.allL
  (List.drop z.snd.snd.snd z.snd.fst) then some (Ex.normal, St.mk [(12, (vI (IntKind.wrap IntKind.i64 ((↑z.snd.snd.fst : Int) + (1 : Int))))), (11, (vI (↑(List.length z.fst)
  : Int))), (10, AV.sl (List.map eCap z.fst)), (0, AV.sl (List.map eCap z.fst))] []) else some (Ex.ret, St.mk [(2, (vI (3 : Int)))] []) else none else bif bif decide
  ((List.getD z k (Cap.mk (0 : Int) (0 : Int) [] (0 : Int) false false)).to ≤ (List.getD z k (Cap.mk (0 : Int) (0 : Int) [] (0 : Int) false false)).fr) then true else false
  then some (Ex.ret, St.mk [(2, (vI (8 : Int)))] []) else Option.bind (unenc encOut [(vI (List.getD z k (Cap.mk (0 : Int) (0 : Int) [] (0 : Int) false false)).row), (vI (0 :
  Int)), (vI (15 : Int))]) fun (z_3 : Int × Int × Int) => bif F.out z_3.fst z_3.snd.fst z_3.snd.snd then some (Ex.ret, St.mk [(2, (vI (1 : Int)))] []) else bif
  (↑(List.length (List.map eStr (List.getD z k (Cap.mk (0 : Int) (0 : Int) [] (0 : Int) false false)).lines)) : Int) == (0 : Int) then some (Ex.ret, St.mk [(2, (vI (9 :
  Int)))] []) else bif decide ((15 : Int) < (↑(List.length (List.map eStr (List.getD z k (Cap.mk (0 : Int) (0 : Int) [] (0 : Int) false false)).lines)) : Int)) then some
  (Ex.ret, St.mk [(2, (vI (2 : Int)))] []) else Option.bind (unenc stChC21 (St.mk [(62, (vI (0 : Int))), (61, (vI (↑(List.length (List.map eStr (List.getD z k (Cap.mk (0 :
  Int) (0 : Int) [] (0 : Int) false false)).lines)) : Int))), (60, AV.sl (List.map eStr (List.getD z k (Cap.mk (0 : Int) (0 : Int) [] (0 : Int) false false)).lines)), (12,
  (vI (↑k : Int))), (11, (vI (↑(List.length l) : Int))), (10, AV.sl (List.map eCap l)), (0, AV.sl (List.map eCap l))] [])) fun (z : List Cap × List ByteArray × Nat × Nat) =>
  bif decide (List.length z.snd.fst ≤ (9223372036854775807 : Nat)) && decide (z.snd.snd.snd ≤ List.length z.snd.fst) && F.smL z.snd.fst && true then bif F.allL (List.drop
  z.snd.snd.snd z.snd.fst) then some (Ex.normal, St.mk [(12, (vI (IntKind.wrap IntKind.i64 ((↑z.snd.snd.fst : Int) + (1 : Int))))), (11, (vI (↑(List.length z.fst) : Int))),
  (10, AV.sl (List.map eCap z.fst)), (0, AV.sl (List.map eCap z.fst))] []) else some (Ex.ret, St.mk [(2, (vI (3 : Int)))] []) else none else some (Ex.ret, St.mk [(2, (vI (1
  : Int)))] []) else none else some (Ex.exit (0 : Nat), St.mk [] []) := by kernel_rfl

theorem lpChC1_ok (l : List Cap) (k : Nat) (hp : prlChC1 l k = true) : ∀ ex s', (outChC1 l k).val = some (ex, s') → LoopOK enChC (loopN Tryz.f22 0) (stChC1 l k) ex s' := by
  simp only [prlChC1, Bool.and_eq_true, decide_eq_true_eq] at hp
  obtain ⟨⟨h1, h2⟩, h3⟩ := hp
  refine loop_chkP (l := l) (f := F.capF) (st := stChC1 l) (o := fun c => (.ret, ⟨[(2, vI c)], []⟩)) (n := ([12, 11, 10, 0], [])) (e := ([], [])) (r := ([2], [])) ?_ ⟨by simp, rfl⟩ (fun _ => ⟨by simp, rfl⟩) (fun _ => rfl) ?_ k h2
  · rw [evChC1L]; simp
  · intro k y hy
    have hlt := lt_at hy
    have hsm := F.smC_at h3 (List.mem_of_getElem? hy)
    rw [evChC1L]
    cases k with
    | zero =>
      simp only [unNoT, unBef, unOut, unLin, unBefw, preNoT1, preBef1, preOut1, preLin1, unstChC1, unstChC2, unstChC10, unstChC20, prlChC1, prlChC2, outChC1, outChC2, etaCap, etaMch, etaWrd, etaFnd, etaRatio, etaWay, Option.bind_some, List.length_map, unStrs, unInts, unBools, uneL_eIs, unCaps, uneL_eCaps, unMchs, unWrds, unFnds, unRatios, unWays, F.lt, F.le, cond_true, cond_false, Bool.and_true, Bool.true_and, cast_lt hlt, decide_eq_true hlt, next_at hlt h1, getD_at hy, stChC1, hsm, F.prev, F.capF, F.befP, F.linesF, isE, List.drop_zero, Nat.zero_le, decide_true]
      have e15 : decide ((15 : Int) < (y.lines.length : Int)) = decide (15 < y.lines.length) := cast_gt 15 _
      have hl : decide (15 < y.lines.length) = false → decide (y.lines.length ≤ 9223372036854775807) = true := fun h => decide_eq_true (by simp only [decide_eq_false_iff_not] at h; omega)
      have hz : decide ((0 : Int) < ((0 : Nat) : Int)) = false := rfl
      simp only [hz, e15]
      cases F.noTime y.fr
      · cases F.noTime y.to
        · cases decide (y.to ≤ y.fr)
          · cases F.out y.row 0 15
            · cases y.lines.isEmpty
              · cases h15 : decide (15 < y.lines.length)
                · simp only [hl h15]
                  cases F.allL y.lines <;> rfl
                · rfl
              · rfl
            · rfl
          · rfl
        · rfl
      · rfl
    | succ j =>
      have ho : l[j]? = some l[j] := List.getElem?_eq_getElem (by omega)
      generalize l[j] = o at ho
      have hlo := lt_at ho
      simp only [unNoT, unBef, unOut, unLin, unBefw, preNoT1, preBef1, preOut1, preLin1, unstChC1, unstChC2, unstChC10, unstChC20, prlChC1, prlChC2, outChC1, outChC2, etaCap, etaMch, etaWrd, etaFnd, etaRatio, etaWay, Option.bind_some, List.length_map, unStrs, unInts, unBools, uneL_eIs, unCaps, uneL_eCaps, unMchs, unWrds, unFnds, unRatios, unWays, F.lt, F.le, cond_true, cond_false, Bool.and_true, Bool.true_and, cast_lt hlt, decide_eq_true hlt, decide_eq_true hlo, next_at hlt h1, getD_at hy, getD_at ho, ho, stChC1, hsm, F.prev, F.capF, F.befP, F.linesF, isE, idx_sub (by omega : j + 1 ≤ 9223372036854775807), List.drop_zero, Nat.zero_le, decide_true]
      have e15 : decide ((15 : Int) < (y.lines.length : Int)) = decide (15 < y.lines.length) := cast_gt 15 _
      have hl : decide (15 < y.lines.length) = false → decide (y.lines.length ≤ 9223372036854775807) = true := fun h => decide_eq_true (by simp only [decide_eq_false_iff_not] at h; omega)
      have hz : decide ((0 : Int) < ((j + 1 : Nat) : Int)) = true := decide_eq_true (by omega)
      simp only [hz, e15]
      cases F.noTime y.fr
      · cases F.noTime y.to
        · cases decide (y.to ≤ y.fr)
          · cases F.before y o
            · cases F.out y.row 0 15
              · cases y.lines.isEmpty
                · cases h15 : decide (15 < y.lines.length)
                  · simp only [hl h15]
                    cases F.allL y.lines <;> rfl
                  · rfl
                · rfl
              · rfl
            · rfl
          · rfl
        · rfl
      · rfl

theorem caps_len {l : List Cap} (h : OkA (.sl (l.map eCap))) : l.length ≤ 9223372036854775807 := by simpa using (okA_sl h).1

theorem evChC (l : List Cap) : (runF enChC false Tryz.f22 [.sl (l.map eCap)]).val =
  bif decide ((500 : Int) < (↑(List.length (List.map eCap l)) : Int)) then some ((vI (2 : Int)), []) else Option.bind (unenc stChC11 (St.mk [(12, (vI (0 : Int))), (11, (vI
  (↑(List.length (List.map eCap l)) : Int))), (10, AV.sl (List.map eCap l)), (0, AV.sl (List.map eCap l))] [])) fun (z : List Cap × Nat) => bif decide (List.length z.fst ≤
  (9223372036854775807 : Nat)) && decide (z.snd ≤ List.length z.fst) && F.smC z.fst && true then bif decide (F.chkP F.capF (F.prev z.fst z.snd) (List.drop z.snd z.fst) = (0
  : Int)) then some ((vI (0 : Int)), []) else some ((vI (F.chkP F.capF (F.prev z.fst z.snd) (List.drop z.snd z.fst))), []) else none := by kernel_rfl

def encChC1 (l : List Cap) : List AV := [.sl (l.map eCap)]

def encChC (a : (List Cap)) : List AV := encChC1 a

theorem encChC_inj (a a' : (List Cap)) (h : encChC a = encChC a') : a = a' := by
  simp only [encChC, encChC1] at h
  try simp [strs_inj, ints_inj, bools_inj, eL_eIs_inj, eCaps_inj, eCap_iff, eL_eCaps_inj, eMchs_inj, eMch_iff, eWrds_inj, eWrd_iff, eFnds_inj, eFnd_iff, eRatios_inj, eRatio_iff, eWays_inj, eWay_iff] at h
  grind

theorem unChC (l : List Cap) : unenc encChC ([AV.sl (List.map eCap l)]) = some (l) := unenc_of encChC_inj (l) rfl

def resChC1 (l : List Cap) : AV × Heap := (vI (F.chkC l), [])

def preChC1 (l : List Cap) : Bool := F.smC l

noncomputable def oChC : Orc := orc 22 true encChC (fun a => preChC1 a) fun a => resChC1 a

theorem okChC : OrcOK Tryz.prog noG oChC := by
  refine mk_ok Tryz.f22 (keep := false) (by kernel_rfl) (by kernel_rfl) enChC_ok mixed (two_loops (x0 := loopN Tryz.f22 0) (x1 := loopN Tryz.f22 1) (by kernel_rfl) (lpo_ok ?_) (lpo_ok ?_)) (by first | exact fun _ _ => ⟨rfl, rfl⟩ | (intro h; cases h)) ?_
  · rintro ⟨l, k⟩ hp
    exact lpChC1_ok l k hp
  · rintro ⟨l, ls, k, j⟩ hp
    exact lpChC2_ok l ls k j hp
  rintro l hpre hok
  show (runF enChC false _ (encChC1 _)).val = some (resChC1 _)
  unfold encChC1 resChC1
  rw [evChC]
  simp only [preChC1] at hpre
  have hx := caps_len (hok _ (List.mem_cons_self ..))
  have hp : F.prev l 0 = none := rfl
  simp only [unNoT, unBef, unOut, unLin, unBefw, preNoT1, preBef1, preOut1, preLin1, unstChC1, unstChC2, unstChC10, unstChC20, prlChC1, prlChC2, outChC1, outChC2, etaCap, etaMch, etaWrd, etaFnd, etaRatio, etaWay, Option.bind_some, List.length_map, unStrs, unInts, unBools, uneL_eIs, unCaps, uneL_eCaps, unMchs, unWrds, unFnds, unRatios, unWays, F.lt, F.le, cond_true, cond_false, Bool.and_true, Bool.true_and, hx, hp, hpre, List.drop_zero, Nat.zero_le, decide_true, F.chkC]
  rw [show decide ((500 : Int) < (l.length : Int)) = decide (500 < l.length) from cast_gt 500 _]
  cases decide (500 < l.length)
  · simp only [cond_false]
    by_cases h : F.chkP F.capF none l = 0
    · simp only [h, decide_true, cond_true]
    · simp only [h, decide_false, cond_false]
  · rfl

def stChL (ls : List ByteArray) (j : Nat) : St := ⟨[(13, vI j), (12, vI ls.length), (11, .sl (ls.map eStr))], []⟩

def stChL1 (a : (List ByteArray) × Nat) : St := stChL a.1 a.2

theorem stChL_inj (a a' : (List ByteArray) × Nat) (h : stChL1 a = stChL1 a') : a = a' := by
  simp only [stChL1, stChL] at h
  try simp [strs_inj, ints_inj, bools_inj, eL_eIs_inj, eCaps_inj, eCap_iff, eL_eCaps_inj, eMchs_inj, eMch_iff, eWrds_inj, eWrd_iff, eFnds_inj, eFnd_iff, eRatios_inj, eRatio_iff, eWays_inj, eWay_iff] at h
  grind

theorem unstChL (ls : List ByteArray) (j : Nat) : unenc stChL1 (St.mk [(13, (vI (↑j : Int))), (12, (vI (↑(List.length ls) : Int))), (11, AV.sl (List.map eStr ls))] []) = some (ls, j) := unenc_of stChL_inj (ls, j) rfl

theorem unstChL0 (ls : List ByteArray)  : unenc stChL1 (St.mk [(13, (vI (0 : Int))), (12, (vI (↑(List.length ls) : Int))), (11, AV.sl (List.map eStr ls))] []) = some (ls, 0) := unenc_of stChL_inj (ls, 0) rfl

def outChL (ls : List ByteArray) (j : Nat) : T (Ex × St) := .ifB (F.allL (ls.drop j)) (.ret (.exit 0, ⟨[], []⟩)) (.ret (.ret, ⟨[(2, vI 3)], []⟩))

noncomputable def prlChL (ls : List ByteArray) (j : Nat) : Bool := decide (ls.length ≤ 9223372036854775807) && decide (j ≤ ls.length) && F.smL ls

noncomputable def lpChL : Nat × (St → T (Ex × St)) := (6, lpo [13, 12, 11] [] stChL1 (fun a => prlChL a.1 a.2) fun a => outChL a.1 a.2)

noncomputable def enChL : Env := envH ty noG lks [oRLin] [] [] [lpChL]

theorem enChL_ok : EnvOK Tryz.prog enChL := by
  refine envH_ok lks_ok ty_ok ?_ ?_
  · simp only [List.forall_mem_cons]
    exact ⟨okRLin, by simp⟩
  · simp

theorem evChLL (ls : List ByteArray) (j : Nat) : ((exec enChL (loopN Tryz.f49 0) (stChL ls j)).bind (lessX ([13, 12, 11], []) ([], []) ([2], []))).val =
  bif decide ((↑j : Int) < (↑(List.length ls) : Int)) then Option.bind (unenc (List.map eStr) (List.map eStr ls)) fun (z : List ByteArray) => bif decide (j < List.length z)
  then Option.bind (unenc encRLin [(vS (List.getD z j (ByteArray.mk (Array.mk []))))]) fun (z : ByteArray) => bif F.small z then bif !F.line z then some (Ex.ret, St.mk [(2,
  (vI (3 : Int)))] []) else some (Ex.normal, St.mk [(13, (vI (IntKind.wrap IntKind.i64 ((↑j : Int) + (1 : Int))))), (12, (vI (↑(List.length ls) : Int))), (11, AV.sl
  (List.map eStr ls))] []) else none else none else some (Ex.exit (0 : Nat), St.mk [] []) := by kernel_rfl

theorem lpChL_ok (ls : List ByteArray) (j : Nat) (hp : prlChL ls j = true) : ∀ ex s', (outChL ls j).val = some (ex, s') → LoopOK enChL (loopN Tryz.f49 0) (stChL ls j) ex s' := by
  simp only [prlChL, Bool.and_eq_true, decide_eq_true_eq] at hp
  obtain ⟨⟨h1, h2⟩, h3⟩ := hp
  refine loop_all (xs := ls) (st := stChL ls) (p := F.line) (n := ([13, 12, 11], [])) (e := ([], [])) (r := ([2], [])) ?_ ⟨by simp, rfl⟩ ⟨by simp, rfl⟩ (fun _ => rfl) ?_ j h2
  · rw [evChLL]; simp
  · intro j y hy
    have hlt := lt_at hy
    have hsm := F.smL_at h3 (List.mem_of_getElem? hy)
    rw [evChLL]
    simp only [unRLin, preRLin1, unstChL, unstChL0, prlChL, outChL, etaCap, etaMch, etaWrd, etaFnd, etaRatio, etaWay, Option.bind_some, List.length_map, unStrs, unInts, unBools, uneL_eIs, unCaps, uneL_eCaps, unMchs, unWrds, unFnds, unRatios, unWays, F.lt, F.le, cond_true, cond_false, Bool.and_true, Bool.true_and, cast_lt hlt, decide_eq_true hlt, next_at hlt h1, getD_at hy, stChL, hsm]
    cases F.line y <;> rfl

theorem evChL (ls : List ByteArray) : (runF enChL false Tryz.f49 [.sl (ls.map eStr)]).val =
  bif (↑(List.length (List.map eStr ls)) : Int) == (0 : Int) then some ((vI (9 : Int)), []) else bif decide ((15 : Int) < (↑(List.length (List.map eStr ls)) : Int)) then
  some ((vI (2 : Int)), []) else Option.bind (unenc stChL1 (St.mk [(13, (vI (0 : Int))), (12, (vI (↑(List.length (List.map eStr ls)) : Int))), (11, AV.sl (List.map eStr
  ls))] [])) fun (z : List ByteArray × Nat) => bif decide (List.length z.fst ≤ (9223372036854775807 : Nat)) && decide (z.snd ≤ List.length z.fst) && F.smL z.fst && true then
  bif F.allL (List.drop z.snd z.fst) then some ((vI (0 : Int)), []) else some ((vI (3 : Int)), []) else none := by kernel_rfl

def encChL1 (ls : List ByteArray) : List AV := [.sl (ls.map eStr)]

def encChL (a : (List ByteArray)) : List AV := encChL1 a

theorem encChL_inj (a a' : (List ByteArray)) (h : encChL a = encChL a') : a = a' := by
  simp only [encChL, encChL1] at h
  try simp [strs_inj, ints_inj, bools_inj, eL_eIs_inj, eCaps_inj, eCap_iff, eL_eCaps_inj, eMchs_inj, eMch_iff, eWrds_inj, eWrd_iff, eFnds_inj, eFnd_iff, eRatios_inj, eRatio_iff, eWays_inj, eWay_iff] at h
  grind

theorem unChL (ls : List ByteArray) : unenc encChL ([AV.sl (List.map eStr ls)]) = some (ls) := unenc_of encChL_inj (ls) rfl

def resChL1 (ls : List ByteArray) : AV × Heap := (vI (F.linesF ls), [])

def preChL1 (ls : List ByteArray) : Bool := F.smL ls

noncomputable def oChL : Orc := orc 49 true encChL (fun a => preChL1 a) fun a => resChL1 a

theorem okChL : OrcOK Tryz.prog noG oChL := by
  refine mk_ok Tryz.f49 (keep := false) (by kernel_rfl) (by kernel_rfl) enChL_ok mixed (one_loop (x0 := loopN Tryz.f49 0) (by kernel_rfl) (lpo_ok ?_)) (by first | exact fun _ _ => ⟨rfl, rfl⟩ | (intro h; cases h)) ?_
  · rintro ⟨ls, j⟩ hp
    exact lpChL_ok ls j hp
  rintro ls hpre hok
  show (runF enChL false _ (encChL1 _)).val = some (resChL1 _)
  unfold encChL1 resChL1
  rw [evChL]
  simp only [preChL1] at hpre
  have hx : ls.length ≤ 9223372036854775807 := by simpa using (okA_sl (hok _ (List.mem_cons_self ..))).1
  simp only [unRLin, preRLin1, unstChL, unstChL0, prlChL, outChL, etaCap, etaMch, etaWrd, etaFnd, etaRatio, etaWay, Option.bind_some, List.length_map, unStrs, unInts, unBools, uneL_eIs, unCaps, uneL_eCaps, unMchs, unWrds, unFnds, unRatios, unWays, F.lt, F.le, cond_true, cond_false, Bool.and_true, Bool.true_and, hx, hpre, List.drop_zero, Nat.zero_le, decide_true, F.linesF, isE]
  rw [show decide ((15 : Int) < (ls.length : Int)) = decide (15 < ls.length) from cast_gt 15 _]
  cases ls.isEmpty <;> cases decide (15 < ls.length) <;> cases F.allL ls <;> rfl

def stRhC (l : List Cap) (k : Nat) : St := ⟨[(11, vI k), (10, vI l.length), (9, .sl (l.map eCap)), (0, .sl (l.map eCap))], []⟩

def stRhC1 (a : (List Cap) × Nat) : St := stRhC a.1 a.2

theorem stRhC_inj (a a' : (List Cap) × Nat) (h : stRhC1 a = stRhC1 a') : a = a' := by
  simp only [stRhC1, stRhC] at h
  try simp [strs_inj, ints_inj, bools_inj, eL_eIs_inj, eCaps_inj, eCap_iff, eL_eCaps_inj, eMchs_inj, eMch_iff, eWrds_inj, eWrd_iff, eFnds_inj, eFnd_iff, eRatios_inj, eRatio_iff, eWays_inj, eWay_iff] at h
  grind

theorem unstRhC (l : List Cap) (k : Nat) : unenc stRhC1 (St.mk [(11, (vI (↑k : Int))), (10, (vI (↑(List.length l) : Int))), (9, AV.sl (List.map eCap l)), (0, AV.sl (List.map eCap l))] []) = some (l, k) := unenc_of stRhC_inj (l, k) rfl

theorem unstRhC0 (l : List Cap)  : unenc stRhC1 (St.mk [(11, (vI (0 : Int))), (10, (vI (↑(List.length l) : Int))), (9, AV.sl (List.map eCap l)), (0, AV.sl (List.map eCap l))] []) = some (l, 0) := unenc_of stRhC_inj (l, 0) rfl

def outRhC (l : List Cap) (k : Nat) : T (Ex × St) := .ifB (decide (F.chkP F.capF (F.prev l k) (l.drop k) = 0)) (.ret (.exit 0, ⟨[], []⟩)) (.ret (.ret, ⟨[(2, vI (F.chkP F.capF (F.prev l k) (l.drop k)))], []⟩))

noncomputable def prlRhC (l : List Cap) (k : Nat) : Bool := decide (l.length ≤ 9223372036854775807) && decide (k ≤ l.length) && F.smC l

noncomputable def lpRhC : Nat × (St → T (Ex × St)) := (4, lpo [11, 10, 9, 0] [] stRhC1 (fun a => prlRhC a.1 a.2) fun a => outRhC a.1 a.2)

noncomputable def enRhC : Env := envH ty noG lks [oIsTm, oRBef, oWithin, oChL] [] [] [lpRhC]

theorem enRhC_ok : EnvOK Tryz.prog enRhC := by
  refine envH_ok lks_ok ty_ok ?_ ?_
  · simp only [List.forall_mem_cons]
    exact ⟨okIsTm, okRBef, okWithin, okChL, by simp⟩
  · simp

theorem evRhCL (l : List Cap) (k : Nat) : ((exec enRhC (loopN Tryz.f19 0) (stRhC l k)).bind (lessX ([11, 10, 9, 0], []) ([], []) ([2], []))).val =
  bif decide ((↑k : Int) < (↑(List.length l) : Int)) then Option.bind (unenc (List.map eCap) (List.map eCap l)) fun (z : List Cap) => bif decide (k < List.length z) then
  Option.bind (unenc encIsTm [(vI (List.getD z k (Cap.mk (0 : Int) (0 : Int) [] (0 : Int) false false)).fr)]) fun (z_1 : Int) => bif !!!F.noTime z_1 then Option.bind (unenc
  encIsTm [(vI (List.getD z k (Cap.mk (0 : Int) (0 : Int) [] (0 : Int) false false)).to)]) fun (z_2 : Int) => bif bif !!F.noTime z_1 then true else !!F.noTime z_2 then some
  (Ex.ret, St.mk [(2, (vI (1 : Int)))] []) else bif decide ((List.getD z k (Cap.mk (0 : Int) (0 : Int) [] (0 : Int) false false)).to ≤ (List.getD z k (Cap.mk (0 : Int) (0 :
  Int) [] (0 : Int) false false)).fr) then some (Ex.ret, St.mk [(2, (vI (8 : Int)))] []) else bif decide ((0 : Int) < (↑k : Int)) then Option.bind (idx (IntKind.wrap
  IntKind.i64 ((↑k : Int) - (1 : Int)))) fun (z_3 : Nat) => Option.bind (unenc (List.map eCap) (List.map eCap l)) fun (z_4 : List Cap) => bif decide (z_3 < List.length z_4)
  then bif decide ((0 : Int) < (↑k : Int)) then Option.bind (unenc encRBef [AV.agg [(vI (List.getD z k (Cap.mk (0 : Int) (0 : Int) [] (0 : Int) false false)).fr), (vI
  (List.getD z k (Cap.mk (0 : Int) (0 : Int) [] (0 : Int) false false)).to), AV.sl (List.map eStr (List.getD z k (Cap.mk (0 : Int) (0 : Int) [] (0 : Int) false
  false)).lines), (vI (List.getD z k (Cap.mk (0 : Int) (0 : Int) [] (0 : Int) false false)).row), (vB (List.getD z k (Cap.mk (0 : Int) (0 : Int) [] (0 : Int) false
  false)).bef), (vB (List.getD z k (Cap.mk (0 : Int) (0 : Int) [] (0 : Int) false false)).aft)], AV.agg [(vI (List.getD z_4 z_3 (Cap.mk (0 : Int) (0 : Int) [] (0 : Int)
  false false)).fr), (vI (List.getD z_4 z_3 (Cap.mk (0 : Int) (0 : Int) [] (0 : Int) false false)).to), AV.sl (List.map eStr (List.getD z_4 z_3 (Cap.mk (0 : Int) (0 : Int)
  [] (0 : Int) false false)).lines), (vI (List.getD z_4 z_3 (Cap.mk (0 : Int) (0 : Int) [] (0 : Int) false false)).row), (vB (List.getD z_4 z_3 (Cap.mk (0 : Int) (0 : Int)
  [] (0 : Int) false false)).bef), (vB (List.getD z_4 z_3 (Cap.mk (0 : Int) (0 : Int) [] (0 : Int) false false)).aft)]]) fun (z_5 : Cap × Cap) => bif bif decide ((0 : Int) <
  (↑k : Int)) then F.before z_5.fst z_5.snd else false then some (Ex.ret, St.mk [(2, (vI (8 : Int)))] []) else Option.bind (unenc encWithin [(vI (List.getD z k (Cap.mk (0 :
  Int) (0 : Int) [] (0 : Int) false false)).row), (vI (0 : Int)), (vI (15 : Int))]) fun (z_6 : Int × Int × Int) => bif !F.within z_6.fst z_6.snd.fst z_6.snd.snd then some
  (Ex.ret, St.mk [(2, (vI (1 : Int)))] []) else Option.bind (unenc encChL [AV.sl (List.map eStr (List.getD z k (Cap.mk (0 : Int) (0 : Int) [] (0 : Int) false
  false)).lines)]) fun (z : List ByteArray) => bif F.smL z then bif F.linesF z != (0 : Int) then some (Ex.ret, St.mk [(2, (vI (F.linesF z)))] []) else some (Ex.normal, St.mk
  [(11, (vI (IntKind.wrap IntKind.i64 ((↑k : Int) + (1 : Int))))), (10, (vI (↑(List.length l) : Int))), (9, AV.sl (List.map eCap l)), (0, AV.sl (List.map eCap l))] []) else
  none else Option.bind (unenc encWithin [(vI (List.getD z k (Cap.mk (0 : Int) (0 : Int) [] (0 : Int) false false)).row), (vI (0 : Int)), (vI (15 : Int))]) fun (z_5 : Int ×
  Int × Int) => bif !F.within z_5.fst z_5.snd.fst z_5.snd.snd then some (Ex.ret, St.mk [(2, (vI (1 : Int)))] []) else Option.bind (unenc encChL [AV.sl (List.map eStr
  (List.getD z k (Cap.mk (0 : Int) (0 : Int) [] (0 : Int) false false)).lines)]) fun (z : List ByteArray) => bif F.smL z then bif F.linesF z != (0 : Int) then some (Ex.ret,
  St.mk [(2, (vI (F.linesF z)))] []) else some (Ex.normal, St.mk [(11, (vI (IntKind.wrap IntKind.i64 ((↑k : Int) + (1 : Int))))), (10, (vI (↑(List.length l) : Int))), (9,
  AV.sl (List.map eCap l)), (0, AV.sl (List.map eCap l))] []) else none else none else bif decide ((0 : Int) < (↑k : Int)) then none else bif decide ((0 : Int) < (↑k : Int))
  then Option.bind (unenc encRBef [AV.agg [(vI (List.getD z k (Cap.mk (0 : Int) (0 : Int) [] (0 : Int) false false)).fr), (vI (List.getD z k (Cap.mk (0 : Int) (0 : Int) []
  (0 : Int) false false)).to), AV.sl (List.map eStr (List.getD z k (Cap.mk (0 : Int) (0 : Int) [] (0 : Int) false false)).lines), (vI (List.getD z k (Cap.mk (0 : Int) (0 :
  Int) [] (0 : Int) false false)).row), (vB (List.getD z k (Cap.mk (0 : Int) (0 : Int) [] (0 : Int) false false)).bef), (vB (List.getD z k (Cap.mk (0 : Int) (0 : Int) [] (0
  : Int) false false)).aft)], AV.unk]) fun (z_3 : Cap × Cap) => bif bif decide ((0 : Int) < (↑k : Int)) then F.before z_3.fst z_3.snd else false then some (Ex.ret, St.mk
  [(2, (vI (8 : Int)))] []) else Option.bind (unenc encWithin [(vI (List.getD z k (Cap.mk (0 : Int) (0 : Int) [] (0 : Int) false false)).row), (vI (0 : Int)), (vI (15 :
  Int))]) fun (z_4 : Int × Int × Int) => bif !F.within z_4.fst z_4.snd.fst z_4.snd.snd then some (Ex.ret, St.mk [(2, (vI (1 : Int)))] []) else Option.bind (unenc encChL
  [AV.sl (List.map eStr (List.getD z k (Cap.mk (0 : Int) (0 : Int) [] (0 : Int) false false)).lines)]) fun (z : List ByteArray) => bif F.smL z then bif F.linesF z != (0 :
  Int) then some (Ex.ret, St.mk [(2, (vI (F.linesF z)))] []) else some (Ex.normal, St.mk [(11, (vI (IntKind.wrap IntKind.i64 ((↑k : Int) + (1 : Int))))), (10, (vI
  (↑(List.length l) : Int))), (9, AV.sl (List.map eCap l)), (0, AV.sl (List.map eCap l))] []) else none else Option.bind (unenc encWithin [(vI (List.getD z k (Cap.mk (0 :
  Int) (0 : Int) [] (0 : Int) false false)).row), (vI (0 : Int)), (vI (15 : Int))]) fun (z_3 : Int × Int × Int) => bif !F.within z_3.fst z_3.snd.fst z_3.snd.snd then some
  (Ex.ret, St.mk [(2, (vI (1 : Int)))] []) else Option.bind (unenc encChL [AV.sl (List.map eStr (List.getD z k (Cap.mk (0 : Int) (0 : Int) [] (0 : Int) false
  false)).lines)]) fun (z : List ByteArray) => bif F.smL z then bif F.linesF z != (0 : Int) then some (Ex.ret, St.mk [(2, (vI (F.linesF z)))] []) else some (Ex.normal, St.mk
  [(11, (vI (IntKind.wrap IntKind.i64 ((↑k : Int) + (1 : Int))))), (10, (vI (↑(List.length l) : Int))), (9, AV.sl (List.map eCap l)), (0, AV.sl (List.map eCap l))] []) else
  none else bif !!!F.noTime z_1 then none else some (Ex.ret, St.mk [(2, (vI (1 : Int)))] []) else none else some (Ex.exit (0 : Nat), St.mk [] []) := by kernel_rfl

theorem lpRhC_ok (l : List Cap) (k : Nat) (hp : prlRhC l k = true) : ∀ ex s', (outRhC l k).val = some (ex, s') → LoopOK enRhC (loopN Tryz.f19 0) (stRhC l k) ex s' := by
  simp only [prlRhC, Bool.and_eq_true, decide_eq_true_eq] at hp
  obtain ⟨⟨h1, h2⟩, h3⟩ := hp
  refine loop_chkP (l := l) (f := F.capF) (st := stRhC l) (o := fun c => (.ret, ⟨[(2, vI c)], []⟩)) (n := ([11, 10, 9, 0], [])) (e := ([], [])) (r := ([2], [])) ?_ ⟨by simp, rfl⟩ (fun _ => ⟨by simp, rfl⟩) (fun _ => rfl) ?_ k h2
  · rw [evRhCL]; simp
  · intro k y hy
    have hlt := lt_at hy
    have hsm := F.smC_at h3 (List.mem_of_getElem? hy)
    rw [evRhCL]
    cases k with
    | zero =>
      simp only [unIsTm, unRBef, unWithin, unChL, unRBefw, preIsTm1, preRBef1, preWithin1, preChL1, unstRhC, unstRhC0, prlRhC, outRhC, etaCap, etaMch, etaWrd, etaFnd, etaRatio, etaWay, Option.bind_some, List.length_map, unStrs, unInts, unBools, uneL_eIs, unCaps, uneL_eCaps, unMchs, unWrds, unFnds, unRatios, unWays, F.lt, F.le, cond_true, cond_false, Bool.and_true, Bool.true_and, cast_lt hlt, decide_eq_true hlt, next_at hlt h1, getD_at hy, stRhC, hsm, F.prev, F.capF, F.befP, F.within_eq, Bool.not_not]
      have hz : decide ((0 : Int) < ((0 : Nat) : Int)) = false := rfl
      simp only [hz]
      cases F.noTime y.fr
      · cases F.noTime y.to
        · cases decide (y.to ≤ y.fr)
          · cases F.out y.row 0 15
            · simp only [Bool.not_false, Bool.not_true, Bool.or_false, Bool.or_true, Bool.and_true, Bool.and_false, cond_true, cond_false]
            · rfl
          · rfl
        · rfl
      · rfl
    | succ j =>
      have ho : l[j]? = some l[j] := List.getElem?_eq_getElem (by omega)
      generalize l[j] = o at ho
      have hlo := lt_at ho
      simp only [unIsTm, unRBef, unWithin, unChL, unRBefw, preIsTm1, preRBef1, preWithin1, preChL1, unstRhC, unstRhC0, prlRhC, outRhC, etaCap, etaMch, etaWrd, etaFnd, etaRatio, etaWay, Option.bind_some, List.length_map, unStrs, unInts, unBools, uneL_eIs, unCaps, uneL_eCaps, unMchs, unWrds, unFnds, unRatios, unWays, F.lt, F.le, cond_true, cond_false, Bool.and_true, Bool.true_and, cast_lt hlt, decide_eq_true hlt, decide_eq_true hlo, next_at hlt h1, getD_at hy, getD_at ho, ho, stRhC, hsm, F.prev, F.capF, F.befP, F.within_eq, Bool.not_not, idx_sub (by omega : j + 1 ≤ 9223372036854775807)]
      have hz : decide ((0 : Int) < ((j + 1 : Nat) : Int)) = true := decide_eq_true (by omega)
      simp only [hz]
      cases F.noTime y.fr
      · cases F.noTime y.to
        · cases decide (y.to ≤ y.fr)
          · cases F.before y o
            · cases F.out y.row 0 15
              · simp only [Bool.not_false, Bool.not_true, Bool.or_false, Bool.or_true, Bool.and_true, Bool.and_false, cond_true, cond_false]
              · rfl
            · rfl
          · rfl
        · rfl
      · rfl

theorem evRhC (l : List Cap) : (runF enRhC false Tryz.f19 [.sl (l.map eCap)]).val =
  bif decide ((500 : Int) < (↑(List.length (List.map eCap l)) : Int)) then some ((vI (2 : Int)), []) else Option.bind (unenc stRhC1 (St.mk [(11, (vI (0 : Int))), (10, (vI
  (↑(List.length (List.map eCap l)) : Int))), (9, AV.sl (List.map eCap l)), (0, AV.sl (List.map eCap l))] [])) fun (z : List Cap × Nat) => bif decide (List.length z.fst ≤
  (9223372036854775807 : Nat)) && decide (z.snd ≤ List.length z.fst) && F.smC z.fst && true then bif decide (F.chkP F.capF (F.prev z.fst z.snd) (List.drop z.snd z.fst) = (0
  : Int)) then some ((vI (0 : Int)), []) else some ((vI (F.chkP F.capF (F.prev z.fst z.snd) (List.drop z.snd z.fst))), []) else none := by kernel_rfl

def encRhC1 (l : List Cap) : List AV := [.sl (l.map eCap)]

def encRhC (a : (List Cap)) : List AV := encRhC1 a

theorem encRhC_inj (a a' : (List Cap)) (h : encRhC a = encRhC a') : a = a' := by
  simp only [encRhC, encRhC1] at h
  try simp [strs_inj, ints_inj, bools_inj, eL_eIs_inj, eCaps_inj, eCap_iff, eL_eCaps_inj, eMchs_inj, eMch_iff, eWrds_inj, eWrd_iff, eFnds_inj, eFnd_iff, eRatios_inj, eRatio_iff, eWays_inj, eWay_iff] at h
  grind

theorem unRhC (l : List Cap) : unenc encRhC ([AV.sl (List.map eCap l)]) = some (l) := unenc_of encRhC_inj (l) rfl

def resRhC1 (l : List Cap) : AV × Heap := (vI (F.chkC l), [])

def preRhC1 (l : List Cap) : Bool := F.smC l

noncomputable def oRhC : Orc := orc 19 true encRhC (fun a => preRhC1 a) fun a => resRhC1 a

theorem okRhC : OrcOK Tryz.prog noG oRhC := by
  refine mk_ok Tryz.f19 (keep := false) (by kernel_rfl) (by kernel_rfl) enRhC_ok mixed (one_loop (x0 := loopN Tryz.f19 0) (by kernel_rfl) (lpo_ok ?_)) (by first | exact fun _ _ => ⟨rfl, rfl⟩ | (intro h; cases h)) ?_
  · rintro ⟨l, k⟩ hp
    exact lpRhC_ok l k hp
  rintro l hpre hok
  show (runF enRhC false _ (encRhC1 _)).val = some (resRhC1 _)
  unfold encRhC1 resRhC1
  rw [evRhC]
  simp only [preRhC1] at hpre
  have hx := caps_len (hok _ (List.mem_cons_self ..))
  have hp : F.prev l 0 = none := rfl
  simp only [unIsTm, unRBef, unWithin, unChL, unRBefw, preIsTm1, preRBef1, preWithin1, preChL1, unstRhC, unstRhC0, prlRhC, outRhC, etaCap, etaMch, etaWrd, etaFnd, etaRatio, etaWay, Option.bind_some, List.length_map, unStrs, unInts, unBools, uneL_eIs, unCaps, uneL_eCaps, unMchs, unWrds, unFnds, unRatios, unWays, F.lt, F.le, cond_true, cond_false, Bool.and_true, Bool.true_and, hx, hp, hpre, List.drop_zero, Nat.zero_le, decide_true, F.chkC]
  rw [show decide ((500 : Int) < (l.length : Int)) = decide (500 < l.length) from cast_gt 500 _]
  cases decide (500 < l.length)
  · simp only [cond_false]
    by_cases h : F.chkP F.capF none l = 0
    · simp only [h, decide_true, cond_true]
    · simp only [h, decide_false, cond_false]
  · rfl

end M
end Go.Proofs.YthcfbeckhgngiaaGreatDoor
