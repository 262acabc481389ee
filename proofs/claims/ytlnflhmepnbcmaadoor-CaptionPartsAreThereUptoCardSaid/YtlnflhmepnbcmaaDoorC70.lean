/- What is proved here: the fault of bounds, of both; the first fault; lists of lists that are alike (no statement of the seat). -/
import Derived.Test.YtlnflhmepnbcmaaDoorC33
import Derived.Test.YtlnflhmepnbcmaaDoorM9
namespace Go.Proofs.YtlnflhmepnbcmaaDoor
open Go Go.RowKit
set_option linter.unusedVariables false
set_option linter.unusedSimpArgs false

def F.leP (p : Option Int) (t : Int) : Bool := match p with
  | none => false
  | some o => F.le t o

def F.bndF (p : Option Int) (t : Int) : Int := bif F.noTime t then 1 else bif F.leP p t then 8 else 0

/-- The fault of bounds. -/
def F.bnds (l : List Int) : Int := bif decide (l.length < 2) then 9 else bif decide (200 < l.length) then 2 else F.chkP F.bndF none l

def F.sameLL (a b : List (List Cap)) : Bool := decide (a.length = b.length) && (a.zip b).all fun p => F.sameCL p.1 p.2

namespace M

theorem cast_lt2 (n : Nat) : decide ((n : Int) < 2) = decide (n < 2) := by
  by_cases h : n < 2
  · rw [decide_eq_true h, decide_eq_true (by omega)]
  · rw [decide_eq_false h, decide_eq_false (by omega)]

theorem cast_gt200 (n : Nat) : decide ((200 : Int) < (n : Int)) = decide (200 < n) := cast_gt 200 n

def stBF (l : List Int) (k : Nat) : St := ⟨[(15, vI k), (14, vI l.length), (13, .sl (l.map eI)), (0, .sl (l.map eI))], []⟩

def stBF1 (a : (List Int) × Nat) : St := stBF a.1 a.2

theorem stBF_inj (a a' : (List Int) × Nat) (h : stBF1 a = stBF1 a') : a = a' := by
  simp only [stBF1, stBF] at h
  try simp [strs_inj, ints_inj, bools_inj, eCaps_inj, eCap_iff, eL_eCaps_inj, eMchs_inj, eMch_iff, eWrds_inj, eWrd_iff, eFnds_inj, eFnd_iff, eRatios_inj, eRatio_iff, eWays_inj, eWay_iff] at h
  grind

theorem unstBF (l : List Int) (k : Nat) : unenc stBF1 (St.mk [(15, (vI (↑k : Int))), (14, (vI (↑(List.length l) : Int))), (13, AV.sl (List.map eI l)), (0, AV.sl (List.map eI l))] []) = some (l, k) := unenc_of stBF_inj (l, k) rfl

theorem unstBF0 (l : List Int)  : unenc stBF1 (St.mk [(15, (vI (0 : Int))), (14, (vI (↑(List.length l) : Int))), (13, AV.sl (List.map eI l)), (0, AV.sl (List.map eI l))] []) = some (l, 0) := unenc_of stBF_inj (l, 0) rfl

def outBF (l : List Int) (k : Nat) : T (Ex × St) := .ifB (decide (F.chkP F.bndF (F.prev l k) (l.drop k) = 0)) (.ret (.exit 1, ⟨[], []⟩)) (.ret (.ret, ⟨[(2, vI (F.chkP F.bndF (F.prev l k) (l.drop k)))], []⟩))

noncomputable def prlBF (l : List Int) (k : Nat) : Bool := decide (l.length ≤ 9223372036854775807) && decide (k ≤ l.length)

noncomputable def lpBF : Nat × (St → T (Ex × St)) := (6, lpo [15, 14, 13, 0] [] stBF1 (fun a => prlBF a.1 a.2) fun a => outBF a.1 a.2)

noncomputable def enBF : Env := envH ty noG lks [oNoT] [] [] [lpBF]

theorem enBF_ok : EnvOK Tryd.prog enBF := by
  refine envH_ok lks_ok ty_ok ?_ ?_
  · simp only [List.forall_mem_cons]
    exact ⟨okNoT, by simp⟩
  · simp

theorem evBFL (l : List Int) (k : Nat) : ((exec enBF (loopN Tryd.f45 0) (stBF l k)).bind (lessX ([15, 14, 13, 0], []) ([], []) ([2], []))).val =
  bif decide ((↑k : Int) < (↑(List.length l) : Int)) then Option.bind (unenc (List.map eI) (List.map eI l)) fun (z : List Int) => bif decide (k < List.length z) then
  Option.bind (unenc encNoT [(vI (List.getD z k (0 : Int)))]) fun (z_1 : Int) => bif F.noTime z_1 then some (Ex.ret, St.mk [(2, (vI (1 : Int)))] []) else bif decide ((0 :
  Int) < (↑k : Int)) then Option.bind (idx (IntKind.wrap IntKind.i64 ((↑k : Int) - (1 : Int)))) fun (z_2 : Nat) => Option.bind (unenc (List.map eI) (List.map eI l)) fun (z_3
  : List Int) => bif decide (z_2 < List.length z_3) then bif decide (List.getD z k (0 : Int) ≤ List.getD z_3 z_2 (0 : Int)) then some (Ex.ret, St.mk [(2, (vI (8 : Int)))]
  []) else some (Ex.normal, St.mk [(15, (vI (IntKind.wrap IntKind.i64 ((↑k : Int) + (1 : Int))))), (14, (vI (↑(List.length l) : Int))), (13, AV.sl (List.map eI l)), (0,
  AV.sl (List.map eI l))] []) else none else some (Ex.normal, St.mk [(15, (vI (IntKind.wrap IntKind.i64 ((↑k : Int) + (1 : Int))))), (14, (vI (↑(List.length l) : Int))),
  (13, AV.sl (List.map eI l)), (0, AV.sl (List.map eI l))] []) else none else some (Ex.exit (1 : Nat), St.mk [] []) := (execR_bind _ _ _).symm.trans (by kernel_rfl)

theorem lpBF_ok (l : List Int) (k : Nat) (hp : prlBF l k = true) : ∀ ex s', (outBF l k).val = some (ex, s') → LoopOK enBF (loopN Tryd.f45 0) (stBF l k) ex s' := by
  simp only [prlBF, Bool.and_eq_true, decide_eq_true_eq] at hp
  obtain ⟨h1, h2⟩ := hp
  refine loop_chkP (l := l) (f := F.bndF) (st := stBF l) (o := fun c => (.ret, ⟨[(2, vI c)], []⟩)) (n := ([15, 14, 13, 0], [])) (e := ([], [])) (r := ([2], [])) ?_ ⟨by simp, rfl⟩ (fun _ => ⟨by simp, rfl⟩) (fun _ => rfl) ?_ k h2
  · rw [evBFL]; simp
  · intro k y hy
    have hlt := lt_at hy
    rw [evBFL]
    cases k with
    | zero =>
      simp only [unNoT, preNoT1, unstBF, unstBF0, prlBF, outBF, etaCap, etaMch, etaWrd, etaFnd, etaRatio, etaWay, Option.bind_some, List.length_map, unStrs, unInts, unBools, unCaps, uneL_eCaps, unMchs, unWrds, unFnds, unRatios, unWays, F.lt, F.le, cond_true, cond_false, Bool.and_true, Bool.true_and, cast_lt hlt, decide_eq_true hlt, next_at hlt h1, getD_at hy, stBF, F.prev, F.bndF, F.leP, List.drop_zero, Nat.zero_le, decide_true]
      have hz : decide ((0 : Int) < ((0 : Nat) : Int)) = false := rfl
      simp only [hz]
      cases F.noTime y <;> rfl
    | succ j =>
      have ho : l[j]? = some l[j] := List.getElem?_eq_getElem (by omega)
      generalize l[j] = o at ho
      have hlo := lt_at ho
      simp only [unNoT, preNoT1, unstBF, unstBF0, prlBF, outBF, etaCap, etaMch, etaWrd, etaFnd, etaRatio, etaWay, Option.bind_some, List.length_map, unStrs, unInts, unBools, unCaps, uneL_eCaps, unMchs, unWrds, unFnds, unRatios, unWays, F.lt, F.le, cond_true, cond_false, Bool.and_true, Bool.true_and, cast_lt hlt, decide_eq_true hlt, decide_eq_true hlo, next_at hlt h1, getD_at hy, getD_at ho, ho, stBF, F.prev, F.bndF, F.leP, idx_sub (by omega : j + 1 ≤ 9223372036854775807), List.drop_zero, Nat.zero_le, decide_true]
      have hz : decide ((0 : Int) < ((j + 1 : Nat) : Int)) = true := decide_eq_true (by omega)
      simp only [hz]
      cases F.noTime y
      · cases decide (y ≤ o) <;> rfl
      · rfl

theorem evBF (l : List Int) : (runF enBF false Tryd.f45 [.sl (l.map eI)]).val =
  bif decide ((↑(List.length (List.map eI l)) : Int) < (2 : Int)) then some ((vI (9 : Int)), []) else bif decide ((200 : Int) < (↑(List.length (List.map eI l)) : Int)) then
  some ((vI (2 : Int)), []) else Option.bind (unenc stBF1 (St.mk [(15, (vI (0 : Int))), (14, (vI (↑(List.length (List.map eI l)) : Int))), (13, AV.sl (List.map eI l)), (0,
  AV.sl (List.map eI l))] [])) fun (z : List Int × Nat) => bif decide (List.length z.fst ≤ (9223372036854775807 : Nat)) && decide (z.snd ≤ List.length z.fst) && true then
  bif decide (F.chkP F.bndF (F.prev z.fst z.snd) (List.drop z.snd z.fst) = (0 : Int)) then some ((vI (0 : Int)), []) else some ((vI (F.chkP F.bndF (F.prev z.fst z.snd)
  (List.drop z.snd z.fst))), []) else none := (runFR_val).symm.trans (by kernel_rfl)

def encBF1 (l : List Int) : List AV := [.sl (l.map eI)]

def encBF (a : (List Int)) : List AV := encBF1 a

theorem encBF_inj (a a' : (List Int)) (h : encBF a = encBF a') : a = a' := by
  simp only [encBF, encBF1] at h
  try simp [strs_inj, ints_inj, bools_inj, eCaps_inj, eCap_iff, eL_eCaps_inj, eMchs_inj, eMch_iff, eWrds_inj, eWrd_iff, eFnds_inj, eFnd_iff, eRatios_inj, eRatio_iff, eWays_inj, eWay_iff] at h
  grind

theorem unBF (l : List Int) : unenc encBF ([AV.sl (List.map eI l)]) = some (l) := unenc_of encBF_inj (l) rfl

def resBF1 (l : List Int) : AV × Heap := (vI (F.bnds l), [])

def preBF1 (l : List Int) : Bool := true

noncomputable def oBF : Orc := orc 45 true encBF (fun a => preBF1 a) fun a => resBF1 a

theorem okBF : OrcOK Tryd.prog noG oBF := by
  refine mk_ok Tryd.f45 (keep := false) (by kernel_rfl) (by kernel_rfl) enBF_ok mixed (one_loop (x0 := loopN Tryd.f45 0) (by kernel_rfl) (lpo_ok ?_)) (by first | exact fun _ _ => ⟨rfl, rfl⟩ | (intro h; cases h)) ?_
  · rintro ⟨l, k⟩ hp
    exact lpBF_ok l k hp
  rintro l hpre hok
  show (runF enBF false _ (encBF1 _)).val = some (resBF1 _)
  unfold encBF1 resBF1
  rw [evBF]
  have hx : l.length ≤ 9223372036854775807 := by simpa using (okA_sl (hok _ (List.mem_cons_self ..))).1
  simp only [unNoT, preNoT1, unstBF, unstBF0, prlBF, outBF, etaCap, etaMch, etaWrd, etaFnd, etaRatio, etaWay, Option.bind_some, List.length_map, unStrs, unInts, unBools, unCaps, uneL_eCaps, unMchs, unWrds, unFnds, unRatios, unWays, F.lt, F.le, cond_true, cond_false, Bool.and_true, Bool.true_and, F.bnds, hx, List.drop_zero, Nat.zero_le, decide_true, F.prev, cast_lt2, cast_gt200]
  cases decide (l.length < 2)
  · cases decide (200 < l.length)
    · by_cases h : F.chkP F.bndF none l = 0 <;> simp [h]
    · rfl
  · rfl

def stRBF (l : List Int) (k : Nat) : St := ⟨[(13, vI k), (12, vI l.length), (11, .sl (l.map eI)), (0, .sl (l.map eI))], []⟩

def stRBF1 (a : (List Int) × Nat) : St := stRBF a.1 a.2

theorem stRBF_inj (a a' : (List Int) × Nat) (h : stRBF1 a = stRBF1 a') : a = a' := by
  simp only [stRBF1, stRBF] at h
  try simp [strs_inj, ints_inj, bools_inj, eCaps_inj, eCap_iff, eL_eCaps_inj, eMchs_inj, eMch_iff, eWrds_inj, eWrd_iff, eFnds_inj, eFnd_iff, eRatios_inj, eRatio_iff, eWays_inj, eWay_iff] at h
  grind

theorem unstRBF (l : List Int) (k : Nat) : unenc stRBF1 (St.mk [(13, (vI (↑k : Int))), (12, (vI (↑(List.length l) : Int))), (11, AV.sl (List.map eI l)), (0, AV.sl (List.map eI l))] []) = some (l, k) := unenc_of stRBF_inj (l, k) rfl

theorem unstRBF0 (l : List Int)  : unenc stRBF1 (St.mk [(13, (vI (0 : Int))), (12, (vI (↑(List.length l) : Int))), (11, AV.sl (List.map eI l)), (0, AV.sl (List.map eI l))] []) = some (l, 0) := unenc_of stRBF_inj (l, 0) rfl

def outRBF (l : List Int) (k : Nat) : T (Ex × St) := .ifB (decide (F.chkP F.bndF (F.prev l k) (l.drop k) = 0)) (.ret (.exit 0, ⟨[], []⟩)) (.ret (.ret, ⟨[(2, vI (F.chkP F.bndF (F.prev l k) (l.drop k)))], []⟩))

noncomputable def prlRBF (l : List Int) (k : Nat) : Bool := decide (l.length ≤ 9223372036854775807) && decide (k ≤ l.length)

noncomputable def lpRBF : Nat × (St → T (Ex × St)) := (6, lpo [13, 12, 11, 0] [] stRBF1 (fun a => prlRBF a.1 a.2) fun a => outRBF a.1 a.2)

noncomputable def enRBF : Env := envH ty noG lks [oIsTm] [] [] [lpRBF]

theorem enRBF_ok : EnvOK Tryd.prog enRBF := by
  refine envH_ok lks_ok ty_ok ?_ ?_
  · simp only [List.forall_mem_cons]
    exact ⟨okIsTm, by simp⟩
  · simp

theorem evRBFL (l : List Int) (k : Nat) : ((exec enRBF (loopN Tryd.f55 0) (stRBF l k)).bind (lessX ([13, 12, 11, 0], []) ([], []) ([2], []))).val =
  bif decide ((↑k : Int) < (↑(List.length l) : Int)) then Option.bind (unenc (List.map eI) (List.map eI l)) fun (z : List Int) => bif decide (k < List.length z) then
  Option.bind (unenc encIsTm [(vI (List.getD z k (0 : Int)))]) fun (z_1 : Int) => bif !!F.noTime z_1 then some (Ex.ret, St.mk [(2, (vI (1 : Int)))] []) else bif decide ((0 :
  Int) < (↑k : Int)) then Option.bind (idx (IntKind.wrap IntKind.i64 ((↑k : Int) - (1 : Int)))) fun (z_2 : Nat) => Option.bind (unenc (List.map eI) (List.map eI l)) fun (z_3
  : List Int) => bif decide (z_2 < List.length z_3) then bif decide (List.getD z k (0 : Int) ≤ List.getD z_3 z_2 (0 : Int)) then some (Ex.ret, St.mk [(2, (vI (8 : Int)))]
  []) else some (Ex.normal, St.mk [(13, (vI (IntKind.wrap IntKind.i64 ((↑k : Int) + (1 : Int))))), (12, (vI (↑(List.length l) : Int))), (11, AV.sl (List.map eI l)), (0,
  AV.sl (List.map eI l))] []) else none else some (Ex.normal, St.mk [(13, (vI (IntKind.wrap IntKind.i64 ((↑k : Int) + (1 : Int))))), (12, (vI (↑(List.length l) : Int))),
  (11, AV.sl (List.map eI l)), (0, AV.sl (List.map eI l))] []) else none else some (Ex.exit (0 : Nat), St.mk [] []) := (execR_bind _ _ _).symm.trans (by kernel_rfl)

theorem lpRBF_ok (l : List Int) (k : Nat) (hp : prlRBF l k = true) : ∀ ex s', (outRBF l k).val = some (ex, s') → LoopOK enRBF (loopN Tryd.f55 0) (stRBF l k) ex s' := by
  simp only [prlRBF, Bool.and_eq_true, decide_eq_true_eq] at hp
  obtain ⟨h1, h2⟩ := hp
  refine loop_chkP (l := l) (f := F.bndF) (st := stRBF l) (o := fun c => (.ret, ⟨[(2, vI c)], []⟩)) (n := ([13, 12, 11, 0], [])) (e := ([], [])) (r := ([2], [])) ?_ ⟨by simp, rfl⟩ (fun _ => ⟨by simp, rfl⟩) (fun _ => rfl) ?_ k h2
  · rw [evRBFL]; simp
  · intro k y hy
    have hlt := lt_at hy
    rw [evRBFL]
    cases k with
    | zero =>
      simp only [unIsTm, preIsTm1, unstRBF, unstRBF0, prlRBF, outRBF, etaCap, etaMch, etaWrd, etaFnd, etaRatio, etaWay, Option.bind_some, List.length_map, unStrs, unInts, unBools, unCaps, uneL_eCaps, unMchs, unWrds, unFnds, unRatios, unWays, F.lt, F.le, cond_true, cond_false, Bool.and_true, Bool.true_and, cast_lt hlt, decide_eq_true hlt, next_at hlt h1, getD_at hy, stRBF, F.prev, F.bndF, F.leP, List.drop_zero, Nat.zero_le, decide_true, Bool.not_not]
      have hz : decide ((0 : Int) < ((0 : Nat) : Int)) = false := rfl
      simp only [hz]
      cases F.noTime y <;> rfl
    | succ j =>
      have ho : l[j]? = some l[j] := List.getElem?_eq_getElem (by omega)
      generalize l[j] = o at ho
      have hlo := lt_at ho
      simp only [unIsTm, preIsTm1, unstRBF, unstRBF0, prlRBF, outRBF, etaCap, etaMch, etaWrd, etaFnd, etaRatio, etaWay, Option.bind_some, List.length_map, unStrs, unInts, unBools, unCaps, uneL_eCaps, unMchs, unWrds, unFnds, unRatios, unWays, F.lt, F.le, cond_true, cond_false, Bool.and_true, Bool.true_and, cast_lt hlt, decide_eq_true hlt, decide_eq_true hlo, next_at hlt h1, getD_at hy, getD_at ho, ho, stRBF, F.prev, F.bndF, F.leP, idx_sub (by omega : j + 1 ≤ 9223372036854775807), List.drop_zero, Nat.zero_le, decide_true, Bool.not_not]
      have hz : decide ((0 : Int) < ((j + 1 : Nat) : Int)) = true := decide_eq_true (by omega)
      simp only [hz]
      cases F.noTime y
      · cases decide (y ≤ o) <;> rfl
      · rfl

theorem evRBF (l : List Int) : (runF enRBF false Tryd.f55 [.sl (l.map eI)]).val =
  bif decide ((↑(List.length (List.map eI l)) : Int) < (2 : Int)) then some ((vI (9 : Int)), []) else bif decide ((200 : Int) < (↑(List.length (List.map eI l)) : Int)) then
  some ((vI (2 : Int)), []) else Option.bind (unenc stRBF1 (St.mk [(13, (vI (0 : Int))), (12, (vI (↑(List.length (List.map eI l)) : Int))), (11, AV.sl (List.map eI l)), (0,
  AV.sl (List.map eI l))] [])) fun (z : List Int × Nat) => bif decide (List.length z.fst ≤ (9223372036854775807 : Nat)) && decide (z.snd ≤ List.length z.fst) && true then
  bif decide (F.chkP F.bndF (F.prev z.fst z.snd) (List.drop z.snd z.fst) = (0 : Int)) then some ((vI (0 : Int)), []) else some ((vI (F.chkP F.bndF (F.prev z.fst z.snd)
  (List.drop z.snd z.fst))), []) else none := (runFR_val).symm.trans (by kernel_rfl)

def encRBF1 (l : List Int) : List AV := [.sl (l.map eI)]

def encRBF (a : (List Int)) : List AV := encRBF1 a

theorem encRBF_inj (a a' : (List Int)) (h : encRBF a = encRBF a') : a = a' := by
  simp only [encRBF, encRBF1] at h
  try simp [strs_inj, ints_inj, bools_inj, eCaps_inj, eCap_iff, eL_eCaps_inj, eMchs_inj, eMch_iff, eWrds_inj, eWrd_iff, eFnds_inj, eFnd_iff, eRatios_inj, eRatio_iff, eWays_inj, eWay_iff] at h
  grind

theorem unRBF (l : List Int) : unenc encRBF ([AV.sl (List.map eI l)]) = some (l) := unenc_of encRBF_inj (l) rfl

def resRBF1 (l : List Int) : AV × Heap := (vI (F.bnds l), [])

def preRBF1 (l : List Int) : Bool := true

noncomputable def oRBF : Orc := orc 55 true encRBF (fun a => preRBF1 a) fun a => resRBF1 a

theorem okRBF : OrcOK Tryd.prog noG oRBF := by
  refine mk_ok Tryd.f55 (keep := false) (by kernel_rfl) (by kernel_rfl) enRBF_ok mixed (one_loop (x0 := loopN Tryd.f55 0) (by kernel_rfl) (lpo_ok ?_)) (by first | exact fun _ _ => ⟨rfl, rfl⟩ | (intro h; cases h)) ?_
  · rintro ⟨l, k⟩ hp
    exact lpRBF_ok l k hp
  rintro l hpre hok
  show (runF enRBF false _ (encRBF1 _)).val = some (resRBF1 _)
  unfold encRBF1 resRBF1
  rw [evRBF]
  have hx : l.length ≤ 9223372036854775807 := by simpa using (okA_sl (hok _ (List.mem_cons_self ..))).1
  simp only [unIsTm, preIsTm1, unstRBF, unstRBF0, prlRBF, outRBF, etaCap, etaMch, etaWrd, etaFnd, etaRatio, etaWay, Option.bind_some, List.length_map, unStrs, unInts, unBools, unCaps, uneL_eCaps, unMchs, unWrds, unFnds, unRatios, unWays, F.lt, F.le, cond_true, cond_false, Bool.and_true, Bool.true_and, F.bnds, hx, List.drop_zero, Nat.zero_le, decide_true, F.prev, cast_lt2, cast_gt200]
  cases decide (l.length < 2)
  · cases decide (200 < l.length)
    · by_cases h : F.chkP F.bndF none l = 0 <;> simp [h]
    · rfl
  · rfl

def stFst (l : List Int) (k : Nat) : St := ⟨[(7, vI k), (6, vI l.length), (5, .sl (l.map eI))], []⟩

def stFst1 (a : (List Int) × Nat) : St := stFst a.1 a.2

theorem stFst_inj (a a' : (List Int) × Nat) (h : stFst1 a = stFst1 a') : a = a' := by
  simp only [stFst1, stFst] at h
  try simp [strs_inj, ints_inj, bools_inj, eCaps_inj, eCap_iff, eL_eCaps_inj, eMchs_inj, eMch_iff, eWrds_inj, eWrd_iff, eFnds_inj, eFnd_iff, eRatios_inj, eRatio_iff, eWays_inj, eWay_iff] at h
  grind

theorem unstFst (l : List Int) (k : Nat) : unenc stFst1 (St.mk [(7, (vI (↑k : Int))), (6, (vI (↑(List.length l) : Int))), (5, AV.sl (List.map eI l))] []) = some (l, k) := unenc_of stFst_inj (l, k) rfl

theorem unstFst0 (l : List Int)  : unenc stFst1 (St.mk [(7, (vI (0 : Int))), (6, (vI (↑(List.length l) : Int))), (5, AV.sl (List.map eI l))] []) = some (l, 0) := unenc_of stFst_inj (l, 0) rfl

def outFst (l : List Int) (k : Nat) : T (Ex × St) := .ifB (decide (M.ffI id (l.drop k) = 0)) (.ret (.exit 0, ⟨[], []⟩)) (.ret (.ret, ⟨[(2, vI (M.ffI id (l.drop k)))], []⟩))

noncomputable def prlFst (l : List Int) (k : Nat) : Bool := decide (l.length ≤ 9223372036854775807) && decide (k ≤ l.length)

noncomputable def lpFst : Nat × (St → T (Ex × St)) := (2, lpo [7, 6, 5] [] stFst1 (fun a => prlFst a.1 a.2) fun a => outFst a.1 a.2)

noncomputable def enFst : Env := envH ty noG lks [] [] [] [lpFst]

theorem enFst_ok : EnvOK Tryd.prog enFst := by
  refine envH_ok lks_ok ty_ok ?_ ?_
  · simp
  · simp

theorem evFstL (l : List Int) (k : Nat) : ((exec enFst (loopN Tryd.f44 0) (stFst l k)).bind (lessX ([7, 6, 5], []) ([], []) ([2], []))).val =
  bif decide ((↑k : Int) < (↑(List.length l) : Int)) then Option.bind (unenc (List.map eI) (List.map eI l)) fun (z : List Int) => bif decide (k < List.length z) then bif
  List.getD z k (0 : Int) != (0 : Int) then some (Ex.ret, St.mk [(2, (vI (List.getD z k (0 : Int))))] []) else some (Ex.normal, St.mk [(7, (vI (IntKind.wrap IntKind.i64 ((↑k
  : Int) + (1 : Int))))), (6, (vI (↑(List.length l) : Int))), (5, AV.sl (List.map eI l))] []) else none else some (Ex.exit (0 : Nat), St.mk [] []) := (execR_bind _ _ _).symm.trans (by kernel_rfl)

theorem lpFst_ok (l : List Int) (k : Nat) (hp : prlFst l k = true) : ∀ ex s', (outFst l k).val = some (ex, s') → LoopOK enFst (loopN Tryd.f44 0) (stFst l k) ex s' := by
  simp only [prlFst, Bool.and_eq_true, decide_eq_true_eq] at hp
  refine loop_code (xs := l) (st := stFst l) (g := id) (o := fun c => (.ret, ⟨[(2, vI c)], []⟩)) (n := ([7, 6, 5], [])) (e := ([], [])) (r := ([2], [])) ?_ ⟨by simp, rfl⟩ (fun _ => ⟨by simp, rfl⟩) (fun _ => rfl) ?_ k hp.2
  · rw [evFstL]; simp
  · intro k y hy
    have hlt := lt_at hy
    rw [evFstL]
    simp only [unstFst, unstFst0, prlFst, outFst, etaCap, etaMch, etaWrd, etaFnd, etaRatio, etaWay, Option.bind_some, List.length_map, unStrs, unInts, unBools, unCaps, uneL_eCaps, unMchs, unWrds, unFnds, unRatios, unWays, F.lt, F.le, cond_true, cond_false, Bool.and_true, Bool.true_and, cast_lt hlt, decide_eq_true hlt, next_at hlt hp.1, getD_at hy, stFst]
    by_cases h : y = 0
    · subst h; rfl
    · have hb : (y != 0) = true := by simp [h]
      simp only [hb, cond_true, id, h, if_false]

theorem evFst (l : List Int) : (runF enFst false Tryd.f44 [.sl (l.map eI)]).val =
  Option.bind (unenc stFst1 (St.mk [(7, (vI (0 : Int))), (6, (vI (↑(List.length (List.map eI l)) : Int))), (5, AV.sl (List.map eI l))] [])) fun (z : List Int × Nat) => bif
  decide (List.length z.fst ≤ (9223372036854775807 : Nat)) && decide (z.snd ≤ List.length z.fst) && true then bif decide (ffI id (List.drop z.snd z.fst) = (0 : Int)) then
  some ((vI (0 : Int)), []) else some ((vI (ffI id (List.drop z.snd z.fst))), []) else none := (runFR_val).symm.trans (by kernel_rfl)

def encFst1 (l : List Int) : List AV := [.sl (l.map eI)]

def encFst (a : (List Int)) : List AV := encFst1 a

theorem encFst_inj (a a' : (List Int)) (h : encFst a = encFst a') : a = a' := by
  simp only [encFst, encFst1] at h
  try simp [strs_inj, ints_inj, bools_inj, eCaps_inj, eCap_iff, eL_eCaps_inj, eMchs_inj, eMch_iff, eWrds_inj, eWrd_iff, eFnds_inj, eFnd_iff, eRatios_inj, eRatio_iff, eWays_inj, eWay_iff] at h
  grind

theorem unFst (l : List Int) : unenc encFst ([AV.sl (List.map eI l)]) = some (l) := unenc_of encFst_inj (l) rfl

def resFst1 (l : List Int) : AV × Heap := (vI (M.ffI id l), [])

def preFst1 (l : List Int) : Bool := true

noncomputable def oFst : Orc := orc 44 true encFst (fun a => preFst1 a) fun a => resFst1 a

theorem okFst : OrcOK Tryd.prog noG oFst := by
  refine mk_ok Tryd.f44 (keep := false) (by kernel_rfl) (by kernel_rfl) enFst_ok mixed (one_loop (x0 := loopN Tryd.f44 0) (by kernel_rfl) (lpo_ok ?_)) (by first | exact fun _ _ => ⟨rfl, rfl⟩ | (intro h; cases h)) ?_
  · rintro ⟨l, k⟩ hp
    exact lpFst_ok l k hp
  rintro l hpre hok
  show (runF enFst false _ (encFst1 _)).val = some (resFst1 _)
  unfold encFst1 resFst1
  rw [evFst]
  have hx : l.length ≤ 9223372036854775807 := by simpa using (okA_sl (hok _ (List.mem_cons_self ..))).1
  simp only [unstFst, unstFst0, prlFst, outFst, etaCap, etaMch, etaWrd, etaFnd, etaRatio, etaWay, Option.bind_some, List.length_map, unStrs, unInts, unBools, unCaps, uneL_eCaps, unMchs, unWrds, unFnds, unRatios, unWays, F.lt, F.le, cond_true, cond_false, Bool.and_true, Bool.true_and, hx, List.drop_zero, Nat.zero_le, decide_true]
  by_cases h : M.ffI id l = 0 <;> simp [h]

theorem fst_two (a b : Int) : unenc encFst [.sl [[vI a], [vI b]]] = some [a, b] := unenc_of encFst_inj [a, b] rfl

theorem ff_two (a b : Int) : M.ffI id [a, b] = (bif a != 0 then a else b) := by
  simp only [M.ffI, id]
  by_cases h : a = 0
  · subst h
    by_cases h2 : b = 0
    · subst h2; rfl
    · simp [h2]
  · rw [if_neg h, bne1 h]; rfl

def stSLs (a : List (List Cap)) (b : List (List Cap)) (k : Nat) : St := ⟨[(13, vI k), (12, vI a.length), (1, .sl (b.map eL_eCap)), (0, .sl (a.map eL_eCap))], []⟩

def stSLs1 (a : (List (List Cap)) × (List (List Cap)) × Nat) : St := stSLs a.1 a.2.1 a.2.2

theorem stSLs_inj (a a' : (List (List Cap)) × (List (List Cap)) × Nat) (h : stSLs1 a = stSLs1 a') : a = a' := by
  simp only [stSLs1, stSLs] at h
  try simp [strs_inj, ints_inj, bools_inj, eCaps_inj, eCap_iff, eL_eCaps_inj, eMchs_inj, eMch_iff, eWrds_inj, eWrd_iff, eFnds_inj, eFnd_iff, eRatios_inj, eRatio_iff, eWays_inj, eWay_iff] at h
  grind

theorem unstSLs (a : List (List Cap)) (b : List (List Cap)) (k : Nat) : unenc stSLs1 (St.mk [(13, (vI (↑k : Int))), (12, (vI (↑(List.length a) : Int))), (1, AV.sl (List.map eL_eCap b)), (0, AV.sl (List.map eL_eCap a))] []) = some (a, b, k) := unenc_of stSLs_inj (a, b, k) rfl

theorem unstSLs0 (a : List (List Cap)) (b : List (List Cap))  : unenc stSLs1 (St.mk [(13, (vI (0 : Int))), (12, (vI (↑(List.length a) : Int))), (1, AV.sl (List.map eL_eCap b)), (0, AV.sl (List.map eL_eCap a))] []) = some (a, b, 0) := unenc_of stSLs_inj (a, b, 0) rfl

def outSLs (a : List (List Cap)) (b : List (List Cap)) (k : Nat) : T (Ex × St) := .ifB (((a.zip b).drop k).all fun p => F.sameCL p.1 p.2) (.ret (.exit 0, ⟨[], []⟩)) (.ret (.ret, ⟨[(4, vB false)], []⟩))

noncomputable def prlSLs (a : List (List Cap)) (b : List (List Cap)) (k : Nat) : Bool := decide (a.length ≤ 9223372036854775807) && decide (k ≤ a.length) && decide (a.length = b.length)

noncomputable def lpSLs : Nat × (St → T (Ex × St)) := (4, lpo [13, 12, 1, 0] [] stSLs1 (fun a => prlSLs a.1 a.2.1 a.2.2) fun a => outSLs a.1 a.2.1 a.2.2)

noncomputable def enSLs : Env := envH ty noG lks [oSa] [] [] [lpSLs]

theorem enSLs_ok : EnvOK Tryd.prog enSLs := by
  refine envH_ok lks_ok ty_ok ?_ ?_
  · simp only [List.forall_mem_cons]
    exact ⟨okSa, by simp⟩
  · simp

theorem evSLsL (a : List (List Cap)) (b : List (List Cap)) (k : Nat) : ((exec enSLs (loopN Tryd.f25 0) (stSLs a b k)).bind (lessX ([13, 12, 1, 0], []) ([], []) ([4], []))).val =
  bif decide ((↑k : Int) < (↑(List.length a) : Int)) then Option.bind (unenc (List.map eL_eCap) (List.map eL_eCap a)) fun (z : List (List Cap)) => bif decide (k <
  List.length z) then Option.bind (unenc (List.map eL_eCap) (List.map eL_eCap b)) fun (z_1 : List (List Cap)) => bif decide (k < List.length z_1) then Option.bind (unenc
  encSa [AV.sl (List.map eCap (List.getD z k [])), AV.sl (List.map eCap (List.getD z_1 k []))]) fun (z : List Cap × List Cap) => bif !F.sameCL z.fst z.snd then some (Ex.ret,
  St.mk [(4, (vB false))] []) else some (Ex.normal, St.mk [(13, (vI (IntKind.wrap IntKind.i64 ((↑k : Int) + (1 : Int))))), (12, (vI (↑(List.length a) : Int))), (1, AV.sl
  (List.map eL_eCap b)), (0, AV.sl (List.map eL_eCap a))] []) else none else none else some (Ex.exit (0 : Nat), St.mk [] []) := (execR_bind _ _ _).symm.trans (by kernel_rfl)

theorem lpSLs_ok (a : List (List Cap)) (b : List (List Cap)) (k : Nat) (hp : prlSLs a b k = true) : ∀ ex s', (outSLs a b k).val = some (ex, s') → LoopOK enSLs (loopN Tryd.f25 0) (stSLs a b k) ex s' := by
  simp only [prlSLs, Bool.and_eq_true, decide_eq_true_eq] at hp
  obtain ⟨⟨h1, h2⟩, h3⟩ := hp
  have hz : (a.zip b).length = a.length := by rw [List.length_zip]; omega
  refine loop_all (xs := a.zip b) (st := stSLs a b) (p := fun p => F.sameCL p.1 p.2) (n := ([13, 12, 1, 0], [])) (e := ([], [])) (r := ([4], [])) ?_ ⟨by simp, rfl⟩ ⟨by simp, rfl⟩ (fun _ => rfl) ?_ k (by omega)
  · rw [hz]; rw [evSLsL]; simp
  · intro k y hy
    rw [List.getElem?_zip_eq_some] at hy
    obtain ⟨ha, hb⟩ := hy
    have hlt := lt_at ha
    have hlt' := lt_at hb
    rw [evSLsL]
    simp only [unSa, preSa1, unstSLs, unstSLs0, prlSLs, outSLs, etaCap, etaMch, etaWrd, etaFnd, etaRatio, etaWay, Option.bind_some, List.length_map, unStrs, unInts, unBools, unCaps, uneL_eCaps, unMchs, unWrds, unFnds, unRatios, unWays, F.lt, F.le, cond_true, cond_false, Bool.and_true, Bool.true_and, cast_lt hlt, decide_eq_true hlt, decide_eq_true hlt', next_at hlt h1, getD_at ha, getD_at hb, stSLs, bne]
    cases F.sameCL y.1 y.2 <;> rfl

theorem evSLs (a : List (List Cap)) (b : List (List Cap)) : (runF enSLs false Tryd.f25 [.sl (a.map eL_eCap), .sl (b.map eL_eCap)]).val =
  bif (↑(List.length (List.map eL_eCap a)) : Int) != (↑(List.length (List.map eL_eCap b)) : Int) then some ((vB false), []) else Option.bind (unenc stSLs1 (St.mk [(13, (vI
  (0 : Int))), (12, (vI (↑(List.length (List.map eL_eCap a)) : Int))), (1, AV.sl (List.map eL_eCap b)), (0, AV.sl (List.map eL_eCap a))] [])) fun (z : List (List Cap) × List
  (List Cap) × Nat) => bif decide (List.length z.fst ≤ (9223372036854775807 : Nat)) && decide (z.snd.snd ≤ List.length z.fst) && decide (List.length z.fst = List.length
  z.snd.fst) && true then bif List.all (List.drop z.snd.snd (List.zip z.fst z.snd.fst)) fun (p : List Cap × List Cap) => F.sameCL p.fst p.snd then some ((vB true), []) else
  some ((vB false), []) else none := (runFR_val).symm.trans (by kernel_rfl)

def encSLs1 (a : List (List Cap)) (b : List (List Cap)) : List AV := [.sl (a.map eL_eCap), .sl (b.map eL_eCap)]

def encSLs (a : (List (List Cap)) × (List (List Cap))) : List AV := encSLs1 a.1 a.2

theorem encSLs_inj (a a' : (List (List Cap)) × (List (List Cap))) (h : encSLs a = encSLs a') : a = a' := by
  simp only [encSLs, encSLs1] at h
  try simp [strs_inj, ints_inj, bools_inj, eCaps_inj, eCap_iff, eL_eCaps_inj, eMchs_inj, eMch_iff, eWrds_inj, eWrd_iff, eFnds_inj, eFnd_iff, eRatios_inj, eRatio_iff, eWays_inj, eWay_iff] at h
  grind

theorem unSLs (a : List (List Cap)) (b : List (List Cap)) : unenc encSLs ([AV.sl (List.map eL_eCap a), AV.sl (List.map eL_eCap b)]) = some (a, b) := unenc_of encSLs_inj (a, b) rfl

def resSLs1 (a : List (List Cap)) (b : List (List Cap)) : AV × Heap := (vB (F.sameLL a b), [])

def preSLs1 (a : List (List Cap)) (b : List (List Cap)) : Bool := true

noncomputable def oSLs : Orc := orc 25 true encSLs (fun a => preSLs1 a.1 a.2) fun a => resSLs1 a.1 a.2

theorem okSLs : OrcOK Tryd.prog noG oSLs := by
  refine mk_ok Tryd.f25 (keep := false) (by kernel_rfl) (by kernel_rfl) enSLs_ok mixed (one_loop (x0 := loopN Tryd.f25 0) (by kernel_rfl) (lpo_ok ?_)) (by first | exact fun _ _ => ⟨rfl, rfl⟩ | (intro h; cases h)) ?_
  · rintro ⟨a, b, k⟩ hp
    exact lpSLs_ok a b k hp
  rintro ⟨a, b⟩ hpre hok
  show (runF enSLs false _ (encSLs1 _ _)).val = some (resSLs1 _ _)
  unfold encSLs1 resSLs1
  rw [evSLs]
  have hx : a.length ≤ 9223372036854775807 := by simpa using (okA_sl (hok _ (List.mem_cons_self ..))).1
  simp only [unSa, preSa1, unstSLs, unstSLs0, prlSLs, outSLs, etaCap, etaMch, etaWrd, etaFnd, etaRatio, etaWay, Option.bind_some, List.length_map, unStrs, unInts, unBools, unCaps, uneL_eCaps, unMchs, unWrds, unFnds, unRatios, unWays, F.lt, F.le, cond_true, cond_false, Bool.and_true, Bool.true_and, F.sameLL, hx, List.drop_zero, Nat.zero_le, decide_true, F.len_eq, bne]
  cases decide (a.length = b.length) <;> cases ((a.zip b).all fun p => F.sameCL p.1 p.2) <;> rfl

end M
end Go.Proofs.YtlnflhmepnbcmaaDoor
